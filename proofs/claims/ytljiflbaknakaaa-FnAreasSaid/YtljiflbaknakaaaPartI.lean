/- OpenParts, as the program has it. -/
import Derived.Test.YtljiflbaknakaaaPartP
import Derived.Test.YtljiflbaknakaaaNextTo
import Derived.Test.YtljiflbaknakaaaRowsT
import Derived.Test.YtljiflbaknakaaaNest3
import Derived.Test.YtljiflbaknakaaaSortInt
import Derived.Test.YtljiflbaknakaaaOpn
import Derived.Test.YtljiflbaknakaaaMake
namespace Go.Proofs.Ytljiflbaknakaaa
open Go.RowKit

/-- a cell that can be crossed -/
def passB (m : MapV) (c : Int) : Prop := 0 < m.cost.getD c.toNat 0
theorem near_map (m : MapV) : Near m.cost.length (passB m) (nextL m) :=
  ⟨fun b x hx => (mem_nextL.1 hx).1, fun b x hx => (mem_nextL.1 hx).2.1, fun b x hO hr hx => by
    obtain ⟨h1, h2, h3⟩ := mem_nextL.1 hx
    refine mem_nextL.2 ⟨hr, hO, ?_⟩
    unfold gapI at h3 ⊢
    omega⟩
theorem passB_at {m : MapV} {k : Nat} (hk : k < m.cost.length) : passB m (k : Int) ↔ 0 < m.cost[k] := by
  unfold passB
  rw [Int.toNat_natCast, List.getD_eq_getElem?_getD, List.getElem?_eq_getElem hk]; rfl
def bools (sl : List Bool) : List Value := sl.map Value.bool
theorem bools_length (sl : List Bool) : (bools sl).length = sl.length := by simp [bools]
theorem info_bool : (Try.prog.info? 4).map (fun i => (i.zero, i.size, i.bytes)) = some (some (.bool false), 1, 1) := by kernel_rfl
/-- A row of marks: which cells have been seen. -/
structure SeenB (w : World) (g N : Nat) (Sn : Int → Prop) (sl : List Bool) : Prop where
  blk : Blk w g 4 (bools sl)
  len : sl.length = N
  is_ : ∀ (c : Nat) (h : c < sl.length), sl[c] = true ↔ Sn (c : Int)
section
variable {w w' : World} {g N : Nat} {Sn Sm : Int → Prop} {sl : List Bool}
theorem SeenB.next (h : SeenB w g N Sn sl) (hb : Below w.heap.size w w') : SeenB w' g N Sn sl := ⟨h.blk.next hb, h.len, h.is_⟩
theorem SeenB.only {S : Nat → Prop} (h : SeenB w g N Sn sl) (ho : Only S w w') (hS : ¬ S g) : SeenB w' g N Sn sl := ⟨h.blk.only ho hS, h.len, h.is_⟩
theorem SeenB.iff (h : SeenB w g N Sn sl) (he : ∀ x, Sn x ↔ Sm x) : SeenB w g N Sm sl := ⟨h.blk, h.len, fun c hc => (h.is_ c hc).trans (he _)⟩
theorem SeenB.at_ (h : SeenB w g N Sn sl) {c : Nat} (hc : c < N) : ∃ b, w.cell? ⟨g, c, none⟩ = some (.bool b) ∧ (b = true ↔ Sn (c : Int)) := by
  have hl : c < sl.length := by rw [h.len]; exact hc
  refine ⟨sl[c], ?_, h.is_ c hl⟩
  rw [h.blk.cell]
  simp [bools, hl]
theorem SeenB.mark (h : SeenB w g N Sn sl) {c : Nat} (_hc : c < N) (he : ∀ x : Int, Sm x ↔ Sn x ∨ x = (c : Int)) : SeenB (w.setCell ⟨g, c, none⟩ (.bool true)) g N Sm (sl.set c true) := by
  refine ⟨?_, by rw [List.length_set]; exact h.len, fun d hd => ?_⟩
  · have h1 := h.blk.set_ c (.bool true)
    rwa [show (bools sl).set c (.bool true) = bools (sl.set c true) by simp [bools, List.map_set]] at h1
  · rw [List.length_set] at hd
    rw [List.getElem_set, he]
    by_cases e : c = d
    · subst e
      simp
    · rw [if_neg e, h.is_ d hd]
      exact ⟨.inl, fun h => h.elim id fun h => absurd h (by omega)⟩
end
theorem Only.keep {S : Nat → Prop} {a b c : World} (h : Only S a b) (k : Below a.heap.size b c) : Only S a c :=
  ⟨k.os.trans h.os, k.tape.trans h.tape, k.output.trans h.output, Nat.le_trans h.size k.size, fun i hi hS => (k.block i hi).trans (h.block i hi hS)⟩
theorem rows_new {B : Nat} {wr : World} {g : Nat} (hg : wr.heap.size = g) (h : B ≤ g) : MineR rowSh (wr.alloc (.cells #[] 22)) (fun b => B ≤ b) 22 3 (some ⟨g, 0, none⟩) 0 0 [] := by
  subst hg
  exact ⟨(Mine.of (own_empty wr 22 1)).wide (fun b hb => Nat.le_trans h hb.1), Inners.nil _, by simp⟩
/-- One row more, that was made since. -/
theorem row_add {w0 ww w4 : World} {B e n c m d c2 : Nat} {A A2 P : Option Addr} {rs : List (Hd (List Int))} {x : List Int} (h : MineR rowSh w0 (fun b => B ≤ b) 22 3 A n c rs) (hB : B ≤ w0.heap.size) (ho : Only (fun b => b = e) w0 ww) (he : e < B)
    (hp : ww.ownsRow w0.heap.size 3 1 (.slice P m d) m (ints x)) (o4 : w4.ownsRow 0 22 1 (.slice A2 (n + 1) c2) (n + 1) (rs.flatMap rowSh.enc ++ [.slice P m d])) (h4 : Only (OwnB A) ww w4) (q4 : ∀ b, OwnB A2 b → OwnB A b ∨ ww.heap.size ≤ b) :
    MineR rowSh w4 (fun b => B ≤ b) 22 3 A2 (n + 1) c2 (rs ++ [⟨x, P, m, d⟩]) ∧ Below B ww w4 := by
  have z1 := ho.size
  have hs := nest_snoc (sh := rowSh) (x := x) (w2 := ww) (D := fun _ => False) (h.inn.inners.only ho (fun b hb hu => by have := hb.1; omega)) h.apart h.outer.lt hp (fun b hb => hb.elim) (Nat.le_refl _) (Only.refl _ _) h4 q4 hB z1
  refine ⟨⟨⟨by rw [List.flatMap_append]; exact o4, fun b hb => ?_⟩, hs.1.wide fun b hb => hb.1, hs.2⟩, h4.below (fun b hb => h.outer.top b hb) (by omega)⟩
  rcases q4 b hb with h5 | h5
  · exact h.outer.top b h5
  · show B ≤ b
    omega

set_option maxRecDepth 100000 in
set_option maxHeartbeats 8000000 in
theorem OpenParts_any (A1 A2 : Option Addr) (n1 n2 c1 c2 : Nat) (m : MapV) (w : World) (hm : SeesMap w A1 n1 A2 n2 m) (hM : isMapB m = true) :
    Calls Try.prog 92 #[.agg #[.int .i64 m.width, .int .i64 m.height, .slice A1 n1 c1, .slice A2 n2 c2]] w fun e w' => ∃ (A : Option Addr) (n c : Nat) (rs : List (Hd (List Int))), e = .returned (.tuple #[.slice A n c, .bool true]) ∧ MineR rowSh w' (fun b => w.heap.size ≤ b) 22 3 A n c rs ∧ rs.map Hd.x = partsM m.cost.length (passB m) (nextL m) m.cost.length ∧ Below w.heap.size w w' := by
  have HL2 := Lib.hid hm.f2.icount
  obtain ⟨hN0, hN1, hN3⟩ := mapB_size hM
  have HN := Lib.hid (show m.cost.length ≤ 36 by omega)
  have hN2 : n2 ≤ 36 := by have := HL2.out; omega
  have hn1 : n1 ≤ 36 := by have h := hm.f1.icount; omega
  have HM := Lib.hid hM
  have HS := mapB_sides hM
  clear hN0 hN1 hN3
  obtain ⟨zs, hzs⟩ : ∃ zs, List.replicate n2 (Value.bool false) = zs := ⟨_, rfl⟩
  have hmk : ∀ w : World, (Instr.makeSlice 113 (.int .i64 (n2 : Int)) (.int .i64 (n2 : Int))).run Try.prog w = .ok (.slice (some ⟨w.heap.size, 0, none⟩) n2 n2) (w.alloc (.cells zs.toArray 4)) := fun w => by
    rw [← hzs]
    exact make_ones (P := Try.prog) n2 Try.underlying113 info_bool rfl (by omega) (by omega) w
  have HZ := Lib.hid (show zs = bools (List.replicate n2 false) by rw [← hzs]; simp [bools])
  clear hzs
  go_enter Try.func92, Try.ntmps92
  go_wp2_with fail
  have K0 : Below w.heap.size w (w.alloc (.cells #[.int .i64 m.width, .int .i64 m.height, .slice A1 n1 c1, .slice A2 n2 c2] 29)) := (Below.refl _ _).alloc (Nat.le_refl _) _
  have B0 : Blk (w.alloc (.cells #[.int .i64 m.width, .int .i64 m.height, .slice A1 n1 c1, .slice A2 n2 c2] 29)) w.heap.size 29 [.int .i64 m.width, .int .i64 m.height, .slice A1 n1 c1, .slice A2 n2 c2] := Blk.at_ rfl
  refine (IsMap_any _ _ _ _ _ _ m _ (hm.next K0) (by omega)).mono ?_
  rw [hM]
  rintro e w1 ⟨rfl, b1⟩
  have K1 := bel_then K0 b1
  have M1 := B0.next b1
  have cm := M1.cell
  have hgw := M1.lt
  have SB : Blk ((w1.alloc (.cells zs.toArray 4)).alloc (.cells #[] 22)) w1.heap.size 4 zs := (Blk.at_ rfl).alloc _
  have MB : Blk ((w1.alloc (.cells zs.toArray 4)).alloc (.cells #[] 22)) w.heap.size 29 [.int .i64 m.width, .int .i64 m.height, .slice A1 n1 c1, .slice A2 n2 c2] := (M1.alloc _).alloc _
  have RM : MineR rowSh ((w1.alloc (.cells zs.toArray 4)).alloc (.cells #[] 22)) (fun b => w1.heap.size + 1 ≤ b) 22 3 (some ⟨w1.heap.size + 1, 0, none⟩) 0 0 [] := rows_new (by simp) (Nat.le_refl _)
  have K2 : Below w.heap.size w ((w1.alloc (.cells zs.toArray 4)).alloc (.cells #[] 22)) := (K1.alloc K1.size _).alloc (by have := K1.size; simp; omega) _
  clear K0 B0 b1 K1 M1 hM
  go_wp2_with fail
  clear hmk
  generalize ((w1.alloc (.cells zs.toArray 4)).alloc (.cells #[] 22)) = w2 at *
  clear cm
  generalize w1.heap.size = gs at *
  have SN0 := Lib.hid (show SeenB w2 gs n2 (SeenAt (passB m) (nextL m) 0) (List.replicate n2 false) from ⟨by rw [← HZ.out]; exact SB, by simp, fun c hc => ⟨fun h => by simp at h, fun h => absurd h seen_zero⟩⟩)
  clear SB HZ
  go_loopw [5, 23] (fun ov iv wr => ∃ (k n0 cc : Nat) (A' : Option Addr) (rs : List (Hd (List Int))) (sl : List Bool), k ≤ n2 ∧ iv = .int .i64 (k : Int) ∧ ov = .slice A' n0 cc ∧ Hid (rs.map Hd.x = partsM m.cost.length (passB m) (nextL m) k) ∧ n0 ≤ k ∧ MineR rowSh wr (fun b => gs + 1 ≤ b) 22 3 A' n0 cc rs ∧ Hid (SeenB wr gs n2 (SeenAt (passB m) (nextL m) k) sl) ∧ Blk wr w.heap.size 29 [.int .i64 m.width, .int .i64 m.height, .slice A1 n1 c1, .slice A2 n2 c2] ∧ Below w.heap.size w wr) (fun _ iv _ => n2 - (intOf iv).toNat)
  case atStart => exact ⟨0, 0, 0, _, [], _, Nat.zero_le _, rfl, rfl, Lib.hid rfl, Nat.le_refl _, RM, SN0, MB, K2⟩
  case round =>
    clear RM SN0 MB K2
    obtain ⟨k, n0, cc, A', rs, sl, hk, rfl, rfl, HRS, hn0, RM, SN, M, K⟩ := hrel
    by_cases hlt : k < n2
    · obtain ⟨bc, oc, rfl, hkc, ck⟩ := (hm.next K).f2.int hlt
      have HPB := Lib.hid (passB_at hkc)
      have HC0 := Lib.hid (mapB_cost HM.out k hkc).1
      obtain ⟨v, hv⟩ : ∃ v, m.cost[k] = v := ⟨_, rfl⟩
      rw [hv] at HPB HC0
      rw [show m.cost[k] = v from hv] at ck
      clear hv
      obtain ⟨sv, csv, hsv⟩ := SN.out.at_ hlt
      have cm := M.cell
      have hgl : gs < wr.heap.size := SN.out.blk.lt
      have hml : w.heap.size < gs := hgw
      by_cases hO : v = 0
      · subst hO
        have HNT := Lib.hid (show ¬ Taken (passB m) (nextL m) k from fun h => by have := HPB.out.1 h.1; omega)
        clear hsv
        have HSK := Lib.hid (show partsM m.cost.length (passB m) (nextL m) (k + 1) = partsM m.cost.length (passB m) (nextL m) k from partsM_skip HNT.out)
        have SN' := Lib.hid (SN.out.iff (Sm := SeenAt (passB m) (nextL m) (k + 1)) fun c => (seen_skip HNT.out).symm)
        clear SN HNT
        go_wp2_with fail
        go_roundw
        case rel => exact ⟨k + 1, n0, cc, A', rs, sl, by omega, by go_num, rfl, Lib.hid (by rw [HRS.out, HSK.out]), by omega, RM, SN', M, K⟩
        case measure => simp [intOf]; omega
      · have hq0 : (v == 0) = false := by simpa using hO
        have HOK := Lib.hid (show passB m (k : Int) from HPB.out.2 (by have := HC0.out; omega))
        have HKR := Lib.hid (show (0 : Int) ≤ (k : Int) ∧ (k : Int) < m.cost.length by have := HL2.out; omega)
        clear HPB HC0
        cases sv
        · have HNS := Lib.hid (show ¬ SeenAt (passB m) (nextL m) k (k : Int) from fun h => by have := hsv.2 h; cases this)
          have HTA := Lib.hid (show Taken (passB m) (nextL m) k from ⟨HOK.out, HNS.out⟩)
          obtain ⟨wo, hwo⟩ : ∃ wo : World, wo = wr := ⟨_, rfl⟩
          subst hwo
          have fsv := SN.out.blk.frozen k
          have PB : Blk ((wo.setCell ⟨gs, k, none⟩ (.bool true)).alloc (.cells #[.int .i64 (k : Int)] 3)) wo.heap.size 3 [.int .i64 (k : Int)] := Blk.at_ (by simp [World.setCell])
          have PW : ((wo.setCell ⟨gs, k, none⟩ (.bool true)).alloc (.cells #[.int .i64 (k : Int)] 3)).ownsRow wo.heap.size 3 1 (.slice (some ⟨wo.heap.size, 0, none⟩) 1 1) 1 (ints [(k : Int)]) := PB.own (Nat.le_refl _) rfl (by simp [maxLen])
          have BE : Below (wo.setCell ⟨gs, k, none⟩ (.bool true)).heap.size (wo.setCell ⟨gs, k, none⟩ (.bool true)) ((wo.setCell ⟨gs, k, none⟩ (.bool true)).alloc (.cells #[.int .i64 (k : Int)] 3)) := (Below.refl _ _).alloc (Nat.le_refl _) _
          have OW := Lib.hid (((Only.refl (fun b => b = gs) wo).setCell (p := ⟨gs, k, none⟩) rfl (.bool true)).then_ BE)
          have SW := Lib.hid ((SN.out.mark (Sm := fun c => SeenAt (passB m) (nextL m) k c ∨ c ∈ [(k : Int)]) hlt fun c => by rw [List.mem_singleton]).next BE)
          have PS := Lib.hid (Part.start (O := (passB m)) (nx := (nextL m)) HKR.out HNS.out)
          clear hsv PB BE SN HNS
          go_wp2_with fail
          generalize ((wo.setCell ⟨gs, k, none⟩ (.bool true)).alloc (.cells #[.int .i64 (k : Int)] 3)) = w3 at *
          go_loopw [8, 9] (fun pv iv wx => ∃ (i c8 : Nat) (A8 : Option Addr) (P : List Int) (s1 : List Bool), i ≤ P.length ∧ iv = .int .i64 (i : Int) ∧ pv = .slice A8 P.length c8 ∧ wx.ownsRow wo.heap.size 3 1 (.slice A8 P.length c8) P.length (ints P) ∧ Hid (SeenB wx gs n2 (fun c => SeenAt (passB m) (nextL m) k c ∨ c ∈ P) s1) ∧ Hid (Part m.cost.length (passB m) (nextL m) (k : Int) (SeenAt (passB m) (nextL m) k) [] i 0 P) ∧ Only (fun b => b = gs) wo wx) (fun _ iv _ => 40 - (intOf iv).toNat)
          case atStart => exact ⟨0, 1, some ⟨wo.heap.size, 0, none⟩, [(k : Int)], sl.set k true, Nat.zero_le _, rfl, rfl, PW, SW, PS, OW.out⟩
          case round =>
            clear PW SW PS OW csv fsv cm ck
            obtain ⟨i, c8, A8, P, s1, hi, rfl, rfl, own8, SN, PA, ON⟩ := hrel
            have hPL : P.length ≤ 36 := Nat.le_trans PA.out.len HN.out
            have z1 := ON.size
            have KW : Below w.heap.size w wr := K.trans (ON.below (fun b (e : _ = _) => by omega) (by omega))
            by_cases hlt2 : i < P.length
            · have HYR := Lib.hid (PA.out.sound P[i] (List.getElem_mem hlt2)).1
              obtain ⟨y, hy⟩ : ∃ y, P[i] = y := ⟨_, rfl⟩
              rw [hy] at HYR
              obtain ⟨yn, rfl⟩ := Int.eq_ofNat_of_zero_le HYR.out.1
              have hy36 : yn ≤ 36 := by have := HYR.out; have := HN.out; omega
              have q := (Quiet.one wr).below wr.heap.size
              have M' := (M.only ON (by omega)).next q
              have K' := bel_then KW q
              have L' := own_below own8 q
              have HON := Lib.hid (ON.then_ q)
              have HSN := Lib.hid (SN.out.next q)
              have HTP := Lib.hid (fun b (hb : OwnB A8 b) => (own_top own8 hb).2)
              clear own8 SN ON KW q
              obtain ⟨bb, ob, rfl, _, hcP⟩ := (Sees.of_own L').int hlt2
              rw [show P[i] = (yn : Int) from hy] at hcP
              have HYP := Lib.hid hy
              clear hy
              have cm := M'.cell
              go_wp2_with fail
              go_region_held3 (fun w' => w'.cell? ⟨bb, ob + i, none⟩ = some (.int .i64 (yn : Int)) ∧ w'.cell? ⟨w.heap.size, 0, none⟩ = some (.int .i64 m.width) ∧ w'.cell? ⟨w.heap.size, 1, none⟩ = some (.int .i64 m.height) ∧ w'.cell? ⟨w.heap.size, 2, none⟩ = some (.slice A1 n1 c1) ∧ w'.cell? ⟨w.heap.size, 3, none⟩ = some (.slice (some ⟨bc, oc, none⟩) n2 c2)) (go_keep)
                (first
                  | (go_at_call 113
                     refine (cellsNextTo_any _ _ _ _ _ _ m yn _ (hm.next K') hN2 HS.1 (by omega)).mono ?_
                     rintro e w5 ⟨A3, c3, rfl, o3, b3⟩
                     have lt3 := M'.lt
                     clear cm hcP
                     replace M' := M'.next b3
                     replace L' := own_below L' b3
                     have ON3 := Lib.hid (HON.out.then_ b3)
                     have SN3 := Lib.hid (HSN.out.next b3)
                     clear b3
                     have cm := M'.cell
                     obtain ⟨b', o', e', _, hcP⟩ := (Sees.of_own L').int hlt2
                     injection e' with e'
                     injection e' with e1 e2
                     subst e1 e2
                     rw [show P[i] = (yn : Int) from HYP.out] at hcP))
              go_wp2_with fail
              have o3' := own_base o3 (show wo.heap.size ≤ wr.drew.heap.size from z1)
              have FAR := Lib.hid (show ∀ b, OwnB A3 b → ¬ OwnB (some ⟨bb, ob, none⟩) b from fun b h1 h2 => by
                have h3 := (own_top o3 h1).1
                have h4 := HTP.out b h2
                have h5 : wr.drew.heap.size = wr.heap.size := rfl
                omega)
              have HLL := Lib.hid (show (nextL m (yn : Int)).length ≤ 36 from Nat.le_trans (nextTo_len m (yn : Int) m.cost.length) HN.out)
              have HRN := Lib.hid (show ∀ x ∈ nextL m (yn : Int), 0 ≤ x ∧ x < m.cost.length from (near_map m).rng _)
              have HRO := Lib.hid (show ∀ x ∈ nextL m (yn : Int), passB m x from (near_map m).opn _)
              obtain ⟨lst, hlst⟩ : ∃ lst, nextL m (yn : Int) = lst := ⟨_, rfl⟩
              rw [hlst] at o3' HLL HRN HRO
              rw [hlst]
              have HE := Lib.hid hlst
              have HPA := Lib.hid (PA.out.list lst)
              have HYQ := Lib.hid (show P[i]? = some (yn : Int) by rw [List.getElem?_eq_getElem hlt2, HYP.out])
              have hlst36 : lst.length ≤ 36 := HLL.out
              clear hlst o3 cm hcP HON HSN HTP PA
              obtain ⟨wp, hwp⟩ : ∃ wp : World, wp = w5 := ⟨_, rfl⟩
              subst hwp
              go_loopw [8, 54] (fun pv jv wx => ∃ (j c8 : Nat) (A8 : Option Addr) (P1 : List Int) (s1 : List Bool), j ≤ lst.length ∧ jv = .int .i64 (j : Int) ∧ pv = .slice A8 P1.length c8 ∧ wx.ownsRow wo.heap.size 3 1 (.slice A8 P1.length c8) P1.length (ints P1) ∧ wx.ownsRow wo.heap.size 3 1 (.slice A3 lst.length c3) lst.length (ints lst) ∧ Hid (∀ b, OwnB A3 b → ¬ OwnB A8 b) ∧ Hid (SeenB wx gs n2 (fun c => SeenAt (passB m) (nextL m) k c ∨ c ∈ P1) s1) ∧ Hid (Part m.cost.length (passB m) (nextL m) (k : Int) (SeenAt (passB m) (nextL m) k) lst i j P1) ∧ Hid (P1[i]? = some (yn : Int)) ∧ Only (fun b => b = gs) wo wx) (fun _ jv _ => lst.length - (intOf jv).toNat)
              case atStart => exact ⟨0, c8, some ⟨bb, ob, none⟩, P, s1, Nat.zero_le _, rfl, rfl, L', o3', FAR, SN3, HPA, HYQ, ON3.out⟩
              case round =>
                clear L' o3' FAR SN3 HPA HYQ ON3 M' K'
                obtain ⟨j, c8, A8, P1, s1, hj, rfl, rfl, own8, own3, FAR, SN, PA, HY, ON⟩ := hrel
                have hPL : P1.length ≤ 36 := Nat.le_trans PA.out.len HN.out
                have z1 := ON.size
                by_cases hlt3 : j < lst.length
                · have HR := Lib.hid (HRN.out lst[j] (List.getElem_mem hlt3))
                  have HSO := Lib.hid (show (SeenAt (passB m) (nextL m) k lst[j] ∨ lst[j] ∈ P1) → Part m.cost.length (passB m) (nextL m) (k : Int) (SeenAt (passB m) (nextL m) k) lst i (j + 1) P1 from fun h => PA.out.old hlt3 (.inr h))
                  have HSN := Lib.hid (show ¬ (SeenAt (passB m) (nextL m) k lst[j] ∨ lst[j] ∈ P1) → Part m.cost.length (passB m) (nextL m) (k : Int) (SeenAt (passB m) (nextL m) k) lst i (j + 1) (P1 ++ [lst[j]]) from fun h => by
                    obtain ⟨hi1, hy1⟩ := List.getElem?_eq_some_iff.1 HY.out
                    exact PA.out.new (near_map m) hlt3 hi1 (by rw [hy1, HE.out]; exact List.getElem_mem hlt3) (fun h1 => h (.inl h1)) (fun h1 => h (.inr h1)))
                  obtain ⟨x, hx⟩ : ∃ x, lst[j] = x := ⟨_, rfl⟩
                  rw [hx] at HR HSO HSN
                  obtain ⟨xn, rfl⟩ := Int.eq_ofNat_of_zero_le HR.out.1
                  have hxl : xn < n2 := by have := HR.out; have := HL2.out; omega
                  have hx36 : xn < 36 := by omega
                  obtain ⟨b3, o3, rfl, _, cs3⟩ := (Sees.of_own own3).int hlt3
                  rw [show lst[j] = (xn : Int) from hx] at cs3
                  obtain ⟨sv, csv, hsv⟩ := SN.out.at_ hxl
                  have fsv := SN.out.blk.frozen xn
                  have hj36 : j ≤ 36 := by have := HLL.out; omega
                  have HK := Lib.hid (show j + 1 ≤ lst.length from hlt3)
                  cases sv
                  · have HP2 := Lib.hid (HSN.out fun h => by have := hsv.2 h; cases this)
                    have o1 := (Only.refl (fun b => b = gs) wr).setCell (p := ⟨gs, xn, none⟩) rfl (.bool true)
                    have SN2 := Lib.hid (SN.out.mark (Sm := fun c => SeenAt (passB m) (nextL m) k c ∨ c ∈ P1 ++ [(xn : Int)]) hxl fun c => by
                      rw [List.mem_append, List.mem_singleton, or_assoc])
                    have own8' := own_only own8 o1 (fun b hb (e : _ = _) => by have := (own_top own8 hb).1; omega)
                    have own3' := own_only own3 o1 (fun b hb (e : _ = _) => by have := (own_top own3 hb).1; omega)
                    have ON2 := Lib.hid (ON.trans o1)
                    have hgs8 := own_not own8 hgl
                    have HY2 := Lib.hid (show (P1 ++ [(xn : Int)])[i]? = some (yn : Int) by rw [List.getElem?_append_left (List.getElem?_eq_some_iff.1 HY.out).1]; exact HY.out)
                    have hz : (wr.setCell ⟨gs, xn, none⟩ (.bool true)).heap.size = wr.heap.size := by simp [World.setCell]
                    clear HSO HSN hsv SN PA HY ON own8 own3 o1 HR hx
                    go_wp2_with (at_builtin; go_loud (refine wpList_pushNew rfl _ _ _ rfl Try.underlying22 info_int rfl (by decide) rfl own8' rfl (by simp) (by rfl) (by rfl) (by omega) (by decide) (by omega) ?_); intro A9 c9 w9 o9 h9 b9 q9)
                    go_roundw
                    case rel => exact ⟨j + 1, c9, A9, P1 ++ [(xn : Int)], s1.set xn true, HK.out, by go_num, by simp, by simpa [ints] using o9, own_only own3' h9 (fun b hb => FAR.out b hb), Lib.hid (fun b hb hb2 => by
                      rcases q9 b hb2 with h5 | h5
                      · exact FAR.out b hb h5
                      · have := (own_top own3' hb).2; omega), Lib.hid (SN2.out.only h9 hgs8), HP2, HY2, ON2.out.keep b9⟩
                    case measure => have := HK.out; simp [intOf]; omega
                  · have HP2 := Lib.hid (HSO.out (hsv.1 rfl))
                    clear HSO HSN hsv PA HR hx
                    go_wp2_with fail
                    go_roundw
                    case rel => exact ⟨j + 1, c8, A8, P1, s1, HK.out, by go_num, rfl, own8, own3, FAR, SN, HP2, HY, ON⟩
                    case measure => have := HK.out; simp [intOf]; omega
                · have HP2 := Lib.hid (show Part m.cost.length (passB m) (nextL m) (k : Int) (SeenAt (passB m) (nextL m) k) [] (i + 1) 0 P1 from by
                    obtain ⟨hi1, hy1⟩ := List.getElem?_eq_some_iff.1 HY.out
                    exact PA.out.done (by omega) hi1 (fun z hz => by rw [hy1, HE.out] at hz; exact ⟨hz, HRO.out z hz⟩))
                  have hi1 : i + 1 ≤ P1.length := (List.getElem?_eq_some_iff.1 HY.out).1
                  have hi36 : i ≤ 36 := by omega
                  have HI1 := Lib.hid hi1
                  clear PA hi1
                  go_wp2_with fail
                  go_roundw
                  case rel => exact ⟨i + 1, c8, A8, P1, s1, HI1.out, by go_num, rfl, own8, SN, HP2, ON⟩
                  case measure => simp [intOf]; omega
            · have HLK := Lib.hid (PA.out.like (near_map m) HOK.out HKR.out (fun x hx y hy => seen_step hx hy) (by omega))
              have HSORT := Lib.hid (show sortI P = partL m.cost.length (nextL m) (k : Int) from rising_ext (sortI_rising PA.out.nodup) (partL_rising _ _ _) fun x => by rw [sortI_mem, HLK.out.mem])
              have HLEN := Lib.hid (show P.length = (partL m.cost.length (nextL m) (k : Int)).length from HLK.out.len)
              have HALL := Lib.hid (show ∀ c, SeenAt (passB m) (nextL m) (k + 1) c ↔ SeenAt (passB m) (nextL m) k c ∨ c ∈ P from fun c => by rw [seen_taken HOK.out, PA.out.all (near_map m) HOK.out (fun x hx y hy => seen_step hx hy) (by omega)])
              have SN' := Lib.hid (SN.out.iff fun c => (HALL.out c).symm)
              clear SN PA HALL
              go_wp2_with fail
              refine (Sort_own _ _ _ _ _ P _ own8 (by omega)).mono ?_
              rintro e w4 ⟨rfl, o4, h4⟩
              rw [HSORT.out] at o4
              have b4 : Below wo.heap.size wr w4 := h4.below (fun b hb => (own_top own8 hb).1) z1
              have ON4 := ON.keep b4
              have SN4 := Lib.hid (SN'.out.only h4 (own_not own8 hgl))
              have M4 := M.only ON4 (by omega)
              have RM4 := RM.outer.only ON4 (fun b hb e => by have hb : gs + 1 ≤ b := hb; omega)
              have K4 : Below w.heap.size w w4 := K.trans (ON4.below (fun b (e : _ = _) => by omega) (by omega))
              have HTK := Lib.hid (show partsM m.cost.length (passB m) (nextL m) (k + 1) = partsM m.cost.length (passB m) (nextL m) k ++ [partL m.cost.length (nextL m) (k : Int)] from partsM_taken HTA.out)
              have z4 := ON4.size
              clear h4 b4 SN' KW own8 HLK HSORT
              go_wp2_with (at_builtin; go_loud (refine wpList_pushNew (w := w4) (vals := [.slice A8 P.length c8]) rfl _ _ _ rfl Try.underlying51 info_intRow rfl (by decide) rfl RM4.own rfl (by simp) (by rfl) (by rfl) (by omega) (by decide) (Nat.zero_le _) ?_); intro A9 c9 w9 o9 h9 b9 q9)
              obtain ⟨R9, L9⟩ := row_add RM (by omega) ON4 (Nat.lt_succ_self _) o4 o9 h9 q9
              have SN9 := Lib.hid (SN4.out.only h9 (fun hb => by have h : gs + 1 ≤ gs := RM.outer.top _ hb; omega))
              have M9 := M4.only h9 (fun hb => by have h : gs + 1 ≤ w.heap.size := RM.outer.top _ hb; omega)
              have K9 : Below w.heap.size w w9 := K4.trans (L9.mono (by omega))
              go_roundw
              case rel => exact ⟨k + 1, n0 + 1, c9, A9, _, s1, by omega, by go_num, rfl, Lib.hid (by rw [List.map_append, HRS.out, HTK.out]; rfl), by omega, R9, SN9, M9, K9⟩
              case measure => simp [intOf]; omega
        · have HNT := Lib.hid (show ¬ Taken (passB m) (nextL m) k from fun h => h.2 (hsv.1 rfl))
          clear hsv
          have HSK := Lib.hid (show partsM m.cost.length (passB m) (nextL m) (k + 1) = partsM m.cost.length (passB m) (nextL m) k from partsM_skip HNT.out)
          have SN' := Lib.hid (SN.out.iff (Sm := SeenAt (passB m) (nextL m) (k + 1)) fun c => (seen_skip HNT.out).symm)
          clear SN HNT
          go_wp2_with fail
          go_roundw
          case rel => exact ⟨k + 1, n0, cc, A', rs, sl, by omega, by go_num, rfl, Lib.hid (by rw [HRS.out, HSK.out]), by omega, RM, SN', M, K⟩
          case measure => simp [intOf]; omega
    · obtain rfl : k = n2 := by omega
      go_wp2_with fail
      go_ret2
      exact ⟨A', n0, cc, rs, rfl, RM.wide (fun b (hb : gs + 1 ≤ b) => show w.heap.size ≤ b by omega), by rw [HRS.out, HL2.out], K⟩

end Go.Proofs.Ytljiflbaknakaaa
