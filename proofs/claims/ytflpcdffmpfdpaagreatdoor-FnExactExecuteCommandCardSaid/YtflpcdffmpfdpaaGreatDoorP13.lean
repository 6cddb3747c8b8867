/- Joined texts of this proof: MissC, FoundD, RunC, LogT. -/
import Derived.Test.YtflpcdffmpfdpaaGreatDoorP12
import Derived.Test.YtflpcdffmpfdpaaGreatDoorP08
import Derived.Test.YtflpcdffmpfdpaaGreatDoorP04
namespace Go.Proofs.YtflpcdffmpfdpaaGreatDoor
open Go.RowKit

theorem fTo_len (ps : List Punch) (cs : List Int) : ∀ k, k ≤ cs.length → (fTo ps cs k).1.length = k
  | 0, _ => by simp [fTo]
  | k + 1, hk => by
    have ih := fTo_len ps cs k (by omega)
    rw [fTo_next ps cs (by omega)]
    unfold fStep
    split <;> simp [ih]
theorem foundL_len (ps : List Punch) (cs : List Int) : (foundL ps cs).length = cs.length := fTo_len ps cs _ (Nat.le_refl _)
/-- The codes at the first k places at which nothing is found. -/
def missTo (fs cs : List Int) (k : Nat) : List Int := ((List.range k).filter fun i => decide (fs.getD i 0 < 0)).map fun i => cs.getD i 0
def missL (x : Card) (cs : List Int) : List Int := missTo (foundL x.punches cs) cs cs.length
theorem missTo_next (fs cs : List Int) {k : Nat} (hf : k < fs.length) (hc : k < cs.length) : missTo fs cs (k + 1) = if fs[k] < 0 then missTo fs cs k ++ [cs[k]] else missTo fs cs k := by
  unfold missTo
  rw [List.range_succ, List.filter_append, List.map_append]
  by_cases h : fs[k] < 0 <;> simp [List.getD, hf, hc, h]
theorem missTo_len (fs cs : List Int) (k : Nat) : (missTo fs cs k).length ≤ k := by
  unfold missTo
  rw [List.length_map]
  exact Nat.le_trans (List.length_filter_le _ _) (by simp)
theorem missL_len (x : Card) (cs : List Int) : (missL x cs).length ≤ cs.length := missTo_len _ _ _

set_option maxRecDepth 100000 in
set_option maxHeartbeats 2000000 in
theorem missingCodes_any (A : Option Addr) (n c : Nat) (x : Card) (B : Option Addr) (m e : Nat) (cs : List Int) (w : World) (hx : Sees w 0 2 A n (x.punches.flatMap Punch.enc)) (hn : n ≤ 1048576) (hnc : n ≤ c) (hy : Sees w 0 1 B m (ints cs)) (hm : m ≤ 1048576) :
    Calls Tryz.prog 219 #[.agg #[.int .i64 x.number, .int .i64 x.start, .int .i64 x.finish, .slice A n c], .slice B m e] w (GivesL w (missL x cs)) := by
  have HM := Lib.hid hy.icount
  have HF := Lib.hid (foundL_len x.punches cs)
  have hfm1 : (foundL x.punches cs).length ≤ m := by rw [HF.out, HM.out]; exact Nat.le_refl _
  have hfm2 : m ≤ (foundL x.punches cs).length := by rw [HF.out, HM.out]; exact Nat.le_refl _
  have K0 : Below w.heap.size w ((w.alloc (.cells #[.int .i64 x.number, .int .i64 x.start, .int .i64 x.finish, .slice A n c] 106)).alloc (.cells #[] 3)) := ((Below.refl _ _).alloc (Nat.le_refl _) _).alloc (by simp) _
  have P0 : Blk ((w.alloc (.cells #[.int .i64 x.number, .int .i64 x.start, .int .i64 x.finish, .slice A n c] 106)).alloc (.cells #[] 3)) w.heap.size 106 [.int .i64 x.number, .int .i64 x.start, .int .i64 x.finish, .slice A n c] := (Blk.at_ rfl).alloc _
  have o0 := own_empty_at (w := (w.alloc (.cells #[.int .i64 x.number, .int .i64 x.start, .int .i64 x.finish, .slice A n c] 106))) (g := w.heap.size + 1) 3 1 (by simp)
  have z0 : w.heap.size + 2 ≤ ((w.alloc (.cells #[.int .i64 x.number, .int .i64 x.start, .int .i64 x.finish, .slice A n c] 106)).alloc (.cells #[] 3)).heap.size := by simp
  go_enter Tryz.func219, Tryz.ntmps219
  go_wp2_with fail
  generalize ((w.alloc (.cells #[.int .i64 x.number, .int .i64 x.start, .int .i64 x.finish, .slice A n c] 106)).alloc (.cells #[] 3)) = w0 at *
  refine (foundAt_any A n c x B m e cs _ (hx.below K0 (Nat.le_refl _)) hn hnc (hy.below K0 (Nat.le_refl _)) hm).mono ?_
  have HD := Lib.hid (show missL x cs = missTo (foundL x.punches cs) cs cs.length from rfl)
  generalize foundL x.punches cs = fs at *
  rintro e1 w1 ⟨F, cf, rfl, of_, b1⟩
  have K1 := bel_then K0 b1
  have o1 := own_below o0 b1
  have hF : ∀ b, OwnB F b → w.heap.size + 2 ≤ b := fun b hb => by have := (own_top of_ hb).1; omega
  have hz1 := b1.size
  clear P0 o0 K0
  go_wp2_with fail
  go_loopw [5, 13] (fun v i wr => ∃ (k : Nat) (out : List Int) (A' : Option Addr) (c' : Nat), k ≤ fs.length ∧ i = .int .i64 (k : Int) ∧ v = .slice A' out.length c' ∧ wr.ownsRow (w.heap.size + 1) 3 1 (.slice A' out.length c') out.length (ints out) ∧ out.length ≤ k ∧ Hid (missTo fs cs k = out) ∧ wr.ownsRow w0.heap.size 3 1 (.slice F fs.length cf) fs.length (ints fs) ∧ (∀ b, OwnB F b → OwnB A' b → False) ∧ w0.heap.size ≤ wr.heap.size ∧ Below w.heap.size w wr) (fun _ i _ => fs.length - (intOf i).toNat)
  case atStart => exact ⟨0, [], _, 0, Nat.zero_le _, rfl, rfl, o1, Nat.le_refl _, Lib.hid rfl, of_, (fun b h1 h2 => by have h3 := hF b h1; have h4 : w.heap.size + 1 = b := (by simpa [OwnB, Value.ownBlock] using h2); omega), hz1, K1⟩
  case round =>
    obtain ⟨k, out, A', c', hk, rfl, rfl, own, hlo, HO, ofr, hap, hzr, hb⟩ := hrel
    by_cases hlt : k < fs.length
    · have hkc : k < cs.length := by rw [HM.out]; omega
      obtain ⟨bk, offk, rfl, hkx, x0⟩ := ((Sees.of_own ofr)).int hlt
      obtain ⟨by_, offy, rfl, hky, y0⟩ := (hy.next hb).int (show k < m by omega)
      have hN := missTo_next fs cs hlt hkc
      rw [HO.out] at hN
      have hblt := World.block_lt_of_cell? wr _ x0
      have hblty := World.block_lt_of_cell? wr _ y0
      have hkm : (k : Int) < (m : Int) := by omega
      have hkf : (k : Int) < (fs.length : Int) := by omega
      by_cases h0 : fs[k] < 0
      · have HN := Lib.hid (hN.trans (if_pos h0))
        clear hN
        go_wp2_with (at_builtin; go_loud (refine wpList_pushNew rfl _ _ _ rfl Tryz.underlying90 info_int rfl (by decide) rfl own rfl (by simp) (by rfl) (by rfl) (by omega) (by decide) (by omega) ?_); intro A9 c9 w9 o9 h9 b9 q9)
        go_roundw
        case rel => exact ⟨k + 1, out ++ [cs[k]], A9, c9, by omega, by go_num, by simp, by simpa [ints] using o9, by simp; omega, HN, own_only ofr h9 (fun b h1 h2 => hap b h1 h2), (fun b h1 h2 => (q9 b h2).elim (hap b h1) (fun h5 => by have := (own_top ofr h1).2; omega)), by have := h9.size; omega, hb.trans (b9.mono (by omega))⟩
        case measure => simp [intOf]; omega
      · have HN := Lib.hid (hN.trans (if_neg h0))
        clear hN
        go_wp2_with fail
        go_roundw
        case rel => exact ⟨k + 1, out, A', c', by omega, by go_num, rfl, own, by omega, HN, ofr, hap, hzr, hb⟩
        case measure => simp [intOf]; omega
    · have HE := Lib.hid (show missL x cs = out by rw [HD.out, ← HO.out, show cs.length = k by rw [HM.out]; omega])
      go_wp2_with fail
      go_ret
      rw [HE.out]
      exact ⟨A', c', rfl, own_base own (by omega), hb⟩

end Go.Proofs.YtflpcdffmpfdpaaGreatDoor

namespace Go.Proofs.YtflpcdffmpfdpaaGreatDoor
open Go.RowKit

/-- The reference's search for one code: the place that is next, what is found, where it goes on. -/
def InF (ps : List Punch) (c : Int) (nx : Nat) (f a kv : Value) : Prop :=
  ∃ kk : Nat, nx ≤ kk ∧ kk ≤ ps.length ∧ kv = .int .i64 (kk : Int) ∧ ((a = .int .i64 (-1) ∧ f = .int .i64 (nx : Int) ∧ ((ps.drop nx).take (kk - nx)).any (isCd c) = false) ∨
    ∃ j : Nat, a = .int .i64 ((nx + j : Nat) : Int) ∧ f = .int .i64 ((nx + j + 1 : Nat) : Int) ∧ ∃ hj : j < (ps.drop nx).length, isCd c (ps.drop nx)[j] = true ∧ ((ps.drop nx).take j).any (isCd c) = false)
theorem inF_start {ps : List Punch} {c : Int} {nx : Nat} (h : nx ≤ ps.length) : InF ps c nx (.int .i64 (nx : Int)) (.int .i64 (-1)) (.int .i64 (nx : Int)) :=
  ⟨nx, Nat.le_refl _, h, rfl, .inl ⟨rfl, rfl, by simp⟩⟩
theorem inF_no {ps : List Punch} {c : Int} {nx kk : Nat} (h1 : nx ≤ kk) (hk : kk < ps.length) (hb : ((ps.drop nx).take (kk - nx)).any (isCd c) = false) (hn : isCd c ps[kk] = false) : InF ps c nx (.int .i64 (nx : Int)) (.int .i64 (-1)) (.int .i64 ((kk + 1 : Nat) : Int)) :=
  ⟨kk + 1, by omega, hk, rfl, .inl ⟨rfl, rfl, by
    have h2 : kk - nx < (ps.drop nx).length := by rw [List.length_drop]; omega
    have h3 : (ps.drop nx)[kk - nx] = ps[kk] := by rw [List.getElem_drop]; congr 1; omega
    rw [show kk + 1 - nx = kk - nx + 1 by omega]
    exact any_take_succ h2 hb (by rw [h3]; exact hn)⟩⟩
theorem inF_yes {ps : List Punch} {c : Int} {nx kk : Nat} (h1 : nx ≤ kk) (hk : kk < ps.length) (hb : ((ps.drop nx).take (kk - nx)).any (isCd c) = false) (hn : isCd c ps[kk] = true) : InF ps c nx (.int .i64 ((kk + 1 : Nat) : Int)) (.int .i64 (kk : Int)) (.int .i64 ((kk + 1 : Nat) : Int)) := by
  have h2 : kk - nx < (ps.drop nx).length := by rw [List.length_drop]; omega
  have h3 : (ps.drop nx)[kk - nx] = ps[kk] := by rw [List.getElem_drop]; congr 1; omega
  exact ⟨kk + 1, by omega, hk, rfl, .inr ⟨kk - nx, by congr 1; omega, by congr 1; omega, h2, by rw [h3]; exact hn, hb⟩⟩

set_option maxRecDepth 100000 in
set_option maxHeartbeats 4000000 in
theorem l12Found_any (A : Option Addr) (n c : Nat) (x : Card) (B : Option Addr) (m e : Nat) (cs : List Int) (w : World) (hx : Sees w 0 2 A n (x.punches.flatMap Punch.enc)) (hn : n ≤ 1048576) (hy : Sees w 0 1 B m (ints cs)) (hm : m ≤ 1048576) :
    Calls Tryz.prog 228 #[.agg #[.int .i64 x.number, .int .i64 x.start, .int .i64 x.finish, .slice A n c], .slice B m e] w (GivesL w (foundL x.punches cs)) := by
  have HL := Lib.hid (hx.count (by decide) (fun _ => rfl))
  have HM := Lib.hid hy.icount
  have K0 : Below w.heap.size w ((w.alloc (.cells #[.int .i64 x.number, .int .i64 x.start, .int .i64 x.finish, .slice A n c] 106)).alloc (.cells #[] 3)) := ((Below.refl _ _).alloc (Nat.le_refl _) _).alloc (by simp) _
  have P0 : Blk ((w.alloc (.cells #[.int .i64 x.number, .int .i64 x.start, .int .i64 x.finish, .slice A n c] 106)).alloc (.cells #[] 3)) w.heap.size 106 [.int .i64 x.number, .int .i64 x.start, .int .i64 x.finish, .slice A n c] := (Blk.at_ rfl).alloc _
  have o0 := own_empty_at (w := (w.alloc (.cells #[.int .i64 x.number, .int .i64 x.start, .int .i64 x.finish, .slice A n c] 106))) (g := w.heap.size + 1) 3 1 (by simp)
  go_enter Tryz.func228, Tryz.ntmps228
  go_wp2_with fail
  go_loopw [5, 6, 7] (fun v q i wr => ∃ (k : Nat) (out : List Int) (nx : Nat) (A' : Option Addr) (c' : Nat), k ≤ m ∧ i = .int .i64 (k : Int) ∧ q = .int .i64 (nx : Int) ∧ v = .slice A' k c' ∧ wr.ownsRow (w.heap.size + 1) 3 1 (.slice A' k c') k (ints out) ∧ nx ≤ n ∧ Hid (fTo x.punches cs k = (out, nx)) ∧ Blk wr w.heap.size 106 [.int .i64 x.number, .int .i64 x.start, .int .i64 x.finish, .slice A n c] ∧ Below w.heap.size w wr) (fun _ _ i _ => m - (intOf i).toNat)
  case atStart => exact ⟨0, [], 0, _, 0, Nat.zero_le _, rfl, rfl, rfl, o0, Nat.zero_le _, Lib.hid rfl, P0, K0⟩
  case round =>
    obtain ⟨k, out, nx, A', c', hk, rfl, rfl, rfl, own, hnx, HO, PB, hb⟩ := hrel
    clear o0 P0 K0
    have pc := PB.cell
    by_cases hlt : k < m
    · obtain ⟨bk, offk, rfl, hkx, x0⟩ := (hy.next hb).int hlt
      have hblt := World.block_lt_of_cell? wr _ x0
      have hkm : (k : Int) < (m : Int) := by omega
      have HS := Lib.hid (inF_start (ps := x.punches) (c := cs[k]) (nx := nx) (by rw [HL.out]; exact hnx))
      go_wp2_with fail
      obtain ⟨wo, hwo⟩ : ∃ wo : World, wo = wr := ⟨_, rfl⟩
      subst hwo
      go_loopw [6, 8, 9] (fun f a kv wx => InF x.punches cs[k] nx f a kv ∧ Quiet wo wx) (fun _ _ kv _ => n + 1 - (intOf kv).toNat)
      case atStart => exact ⟨HS.out, Quiet.refl _⟩
      case round =>
        obtain ⟨⟨kk, h1, h2, rfl, hw⟩, qx⟩ := hrel
        have hkn : kk ≤ n := by rw [← HL.out]; exact h2
        replace own := own_below own (qx.below _)
        replace PB := PB.quiet qx
        replace hb := bel_quiet hb qx
        have x0' := ((bcell (qx.below wo.heap.size)).1 _ (offk + k) hblt).trans x0
        have hblt' : bk < wr.heap.size := World.block_lt_of_cell? wr _ x0'
        clear pc x0 hblt HS
        have pc := PB.cell
        have QX := Lib.hid qx
        clear qx
        rcases hw with ⟨rfl, rfl, hno⟩ | ⟨j, rfl, rfl, hj, hpj, hbj⟩
        · by_cases hk2 : kk < n
          · obtain ⟨bp, offp, rfl, hkp, y0, y1⟩ := (hx.next hb).elem2 (fun _ => rfl) hk2
            have hbp := World.block_lt_of_cell? wr _ y0
            have hkki : (kk : Int) < (n : Int) := by omega
            by_cases he : x.punches[kk].code = cs[k]
            · have HY := Lib.hid (inF_yes h1 hkp hno (by simp [isCd, he]))
              have e1 : (x.punches[kk].code == cs[k]) = true := by simp [he]
              clear he hno
              go_wp2_with fail
              go_quiet (fail)
              go_wp2_with fail
              go_roundw
              case rel => exact ⟨HY.out, QX.out.more _⟩
              case measure => simp [intOf]; omega
            · have HY := Lib.hid (inF_no h1 hkp hno (by simp [isCd, he]))
              have e1 : (x.punches[kk].code == cs[k]) = false := by simp [he]
              clear he hno
              go_wp2_with fail
              go_quiet (fail)
              go_wp2_with fail
              go_roundw
              case rel => exact ⟨HY.out, QX.out.more _⟩
              case measure => simp [intOf]; omega
          · have HN := Lib.hid (show fTo x.punches cs (k + 1) = (out ++ [-1], nx) by
              rw [fTo_next _ _ hkx, HO.out]
              refine fStep_no ?_
              rwa [List.take_of_length_le (by rw [List.length_drop, HL.out]; omega)] at hno)
            clear hno
            go_wp2_with (at_builtin; go_loud (refine wpList_pushNew rfl _ _ _ rfl Tryz.underlying90 info_int rfl (by decide) rfl own rfl (by simp) (by rfl) (by rfl) (by omega) (by decide) PB.lt ?_); intro A9 c9 w9 o9 h9 b9 q9)
            go_roundw
            case rel => exact ⟨k + 1, out ++ [-1], nx, A9, c9, by omega, by go_num, rfl, rfl, by simpa [ints] using o9, hnx, HN, PB.only h9 (own_not own (by omega)), hb.trans (b9.mono (by omega))⟩
            case measure => simp [intOf]; omega
        · have HN := Lib.hid (show fTo x.punches cs (k + 1) = (out ++ [((nx + j : Nat) : Int)], nx + j + 1) by rw [fTo_next _ _ hkx, HO.out, fStep_yes hj hpj hbj])
          have hjn : nx + j + 1 ≤ n := by have h := hj; rw [List.length_drop, HL.out] at h; omega
          clear hj hpj hbj
          have hge : ¬ (((nx + j : Nat) : Int) < 0) := by omega
          by_cases hk2 : kk < n
          · have hkki : (kk : Int) < (n : Int) := by omega
            go_wp2_with (at_builtin; go_loud (refine wpList_pushNew rfl _ _ _ rfl Tryz.underlying90 info_int rfl (by decide) rfl own rfl (by simp) (by rfl) (by rfl) (by omega) (by decide) PB.lt ?_); intro A9 c9 w9 o9 h9 b9 q9)
            go_roundw
            case rel => exact ⟨k + 1, out ++ [((nx + j : Nat) : Int)], nx + j + 1, A9, c9, by omega, by go_num, rfl, rfl, by simpa [ints] using o9, hjn, HN, PB.only h9 (own_not own (by omega)), hb.trans (b9.mono (by omega))⟩
            case measure => simp [intOf]; omega
          · have hkki : ¬ ((kk : Int) < (n : Int)) := by omega
            go_wp2_with (at_builtin; go_loud (refine wpList_pushNew rfl _ _ _ rfl Tryz.underlying90 info_int rfl (by decide) rfl own rfl (by simp) (by rfl) (by rfl) (by omega) (by decide) PB.lt ?_); intro A9 c9 w9 o9 h9 b9 q9)
            go_roundw
            case rel => exact ⟨k + 1, out ++ [((nx + j : Nat) : Int)], nx + j + 1, A9, c9, by omega, by go_num, rfl, rfl, by simpa [ints] using o9, hjn, HN, PB.only h9 (own_not own (by omega)), hb.trans (b9.mono (by omega))⟩
            case measure => simp [intOf]; omega
    · obtain rfl : k = m := by omega
      have HE := Lib.hid (show foundL x.punches cs = out by unfold foundL; rw [show cs.length = k from HM.out, HO.out])
      go_wp2_with fail
      go_ret
      rw [HE.out]
      have h9 := own_len own
      subst h9
      exact ⟨A', c', rfl, own_base own (by omega), hb⟩

set_option maxRecDepth 100000 in
set_option maxHeartbeats 2000000 in
theorem l12Missing_any (A : Option Addr) (n c : Nat) (x : Card) (B : Option Addr) (m e : Nat) (cs : List Int) (w : World) (hx : Sees w 0 2 A n (x.punches.flatMap Punch.enc)) (hn : n ≤ 1048576) (hy : Sees w 0 1 B m (ints cs)) (hm : m ≤ 1048576) :
    Calls Tryz.prog 201 #[.agg #[.int .i64 x.number, .int .i64 x.start, .int .i64 x.finish, .slice A n c], .slice B m e] w (GivesL w (missL x cs)) := by
  have HM := Lib.hid hy.icount
  have HF := Lib.hid (foundL_len x.punches cs)
  have hfm1 : (foundL x.punches cs).length ≤ m := by rw [HF.out, HM.out]; exact Nat.le_refl _
  have hfm2 : m ≤ (foundL x.punches cs).length := by rw [HF.out, HM.out]; exact Nat.le_refl _
  have K0 : Below w.heap.size w ((w.alloc (.cells #[.int .i64 x.number, .int .i64 x.start, .int .i64 x.finish, .slice A n c] 106)).alloc (.cells #[] 3)) := ((Below.refl _ _).alloc (Nat.le_refl _) _).alloc (by simp) _
  have P0 : Blk ((w.alloc (.cells #[.int .i64 x.number, .int .i64 x.start, .int .i64 x.finish, .slice A n c] 106)).alloc (.cells #[] 3)) w.heap.size 106 [.int .i64 x.number, .int .i64 x.start, .int .i64 x.finish, .slice A n c] := (Blk.at_ rfl).alloc _
  have o0 := own_empty_at (w := (w.alloc (.cells #[.int .i64 x.number, .int .i64 x.start, .int .i64 x.finish, .slice A n c] 106))) (g := w.heap.size + 1) 3 1 (by simp)
  have z0 : w.heap.size + 2 ≤ ((w.alloc (.cells #[.int .i64 x.number, .int .i64 x.start, .int .i64 x.finish, .slice A n c] 106)).alloc (.cells #[] 3)).heap.size := by simp
  go_enter Tryz.func201, Tryz.ntmps201
  go_wp2_with fail
  generalize ((w.alloc (.cells #[.int .i64 x.number, .int .i64 x.start, .int .i64 x.finish, .slice A n c] 106)).alloc (.cells #[] 3)) = w0 at *
  refine (l12Found_any A n c x B m e cs _ (hx.below K0 (Nat.le_refl _)) hn (hy.below K0 (Nat.le_refl _)) hm).mono ?_
  have HD := Lib.hid (show missL x cs = missTo (foundL x.punches cs) cs cs.length from rfl)
  generalize foundL x.punches cs = fs at *
  rintro e1 w1 ⟨F, cf, rfl, of_, b1⟩
  have K1 := bel_then K0 b1
  have o1 := own_below o0 b1
  have hF : ∀ b, OwnB F b → w.heap.size + 2 ≤ b := fun b hb => by have := (own_top of_ hb).1; omega
  have hz1 := b1.size
  clear P0 o0 K0
  go_wp2_with fail
  go_loopw [5, 7] (fun v i wr => ∃ (k : Nat) (out : List Int) (A' : Option Addr) (c' : Nat), k ≤ fs.length ∧ i = .int .i64 (k : Int) ∧ v = .slice A' out.length c' ∧ wr.ownsRow (w.heap.size + 1) 3 1 (.slice A' out.length c') out.length (ints out) ∧ out.length ≤ k ∧ Hid (missTo fs cs k = out) ∧ wr.ownsRow w0.heap.size 3 1 (.slice F fs.length cf) fs.length (ints fs) ∧ (∀ b, OwnB F b → OwnB A' b → False) ∧ w0.heap.size ≤ wr.heap.size ∧ Below w.heap.size w wr) (fun _ i _ => fs.length - (intOf i).toNat)
  case atStart => exact ⟨0, [], _, 0, Nat.zero_le _, rfl, rfl, o1, Nat.le_refl _, Lib.hid rfl, of_, (fun b h1 h2 => by have h3 := hF b h1; have h4 : w.heap.size + 1 = b := (by simpa [OwnB, Value.ownBlock] using h2); omega), hz1, K1⟩
  case round =>
    obtain ⟨k, out, A', c', hk, rfl, rfl, own, hlo, HO, ofr, hap, hzr, hb⟩ := hrel
    by_cases hlt : k < fs.length
    · have hkc : k < cs.length := by rw [HM.out]; omega
      obtain ⟨bk, offk, rfl, hkx, x0⟩ := ((Sees.of_own ofr)).int hlt
      obtain ⟨by_, offy, rfl, hky, y0⟩ := (hy.next hb).int (show k < m by omega)
      have hN := missTo_next fs cs hlt hkc
      rw [HO.out] at hN
      have hblt := World.block_lt_of_cell? wr _ x0
      have hblty := World.block_lt_of_cell? wr _ y0
      have hkm : (k : Int) < (m : Int) := by omega
      have hkf : (k : Int) < (fs.length : Int) := by omega
      by_cases h0 : fs[k] < 0
      · have HN := Lib.hid (hN.trans (if_pos h0))
        clear hN
        go_wp2_with (at_builtin; go_loud (refine wpList_pushNew rfl _ _ _ rfl Tryz.underlying90 info_int rfl (by decide) rfl own rfl (by simp) (by rfl) (by rfl) (by omega) (by decide) (by omega) ?_); intro A9 c9 w9 o9 h9 b9 q9)
        go_roundw
        case rel => exact ⟨k + 1, out ++ [cs[k]], A9, c9, by omega, by go_num, by simp, by simpa [ints] using o9, by simp; omega, HN, own_only ofr h9 (fun b h1 h2 => hap b h1 h2), (fun b h1 h2 => (q9 b h2).elim (hap b h1) (fun h5 => by have := (own_top ofr h1).2; omega)), by have := h9.size; omega, hb.trans (b9.mono (by omega))⟩
        case measure => simp [intOf]; omega
      · have HN := Lib.hid (hN.trans (if_neg h0))
        clear hN
        go_wp2_with fail
        go_roundw
        case rel => exact ⟨k + 1, out, A', c', by omega, by go_num, rfl, own, by omega, HN, ofr, hap, hzr, hb⟩
        case measure => simp [intOf]; omega
    · have HE := Lib.hid (show missL x cs = out by rw [HD.out, ← HO.out, show cs.length = k by rw [HM.out]; omega])
      go_wp2_with fail
      go_ret
      rw [HE.out]
      exact ⟨A', c', rfl, own_base own (by omega), hb⟩

end Go.Proofs.YtflpcdffmpfdpaaGreatDoor

namespace Go.Proofs.YtflpcdffmpfdpaaGreatDoor
open Go.RowKit

def runB (x : RunE) : Bool := inB x.runner 1 99 && (if x.started then cardB x.card else !x.out && zeroB x.card)
/-- the status of a run -/
def statM (x : RunE) (cs : List Int) (limit : Int) : Int :=
  if x.started = false then 5 else if x.out = true then 4 else if x.finish = -1 then 2 else if 0 < (missL x.card cs).length then 1 else if limit < x.finish - x.start then 3 else 0

set_option maxRecDepth 100000 in
set_option maxHeartbeats 2000000 in
theorem isRun_any (A : Option Addr) (n c : Nat) (x : RunE) (w : World) (hx : Sees w 0 2 A n (x.punches.flatMap Punch.enc)) (hn : n ≤ 1048576) :
    Calls Tryz.prog 237 #[.agg #[.int .i64 x.runner, .bool x.started, .bool x.out, .int .i64 x.number, .int .i64 x.start, .int .i64 x.finish, .slice A n c]] w fun e w' => e = .returned (.bool (runB x)) ∧ Below w.heap.size w w' := by
  obtain ⟨rn, st, ou, nu, sa, fi, ps⟩ := x
  dsimp only at *
  have K : Below w.heap.size w (w.alloc (.cells #[.int .i64 rn, .bool st, .bool ou, .int .i64 nu, .int .i64 sa, .int .i64 fi, .slice A n c] 160)) := (Below.refl w.heap.size w).alloc (Nat.le_refl _) _
  have P : Blk (w.alloc (.cells #[.int .i64 rn, .bool st, .bool ou, .int .i64 nu, .int .i64 sa, .int .i64 fi, .slice A n c] 160)) w.heap.size 160 [.int .i64 rn, .bool st, .bool ou, .int .i64 nu, .int .i64 sa, .int .i64 fi, .slice A n c] := Blk.at_ rfl
  obtain ⟨ib, hib⟩ : ∃ ib, inB rn 1 99 = ib := ⟨_, rfl⟩
  have HIB := Lib.hid hib
  have HR0 := Lib.hid (show runB ⟨rn, st, ou, nu, sa, fi, ps⟩ = (ib && (if st then cardB ⟨nu, sa, fi, ps⟩ else !ou && zeroB ⟨nu, sa, fi, ps⟩)) by unfold runB RunE.card; dsimp only; rw [hib])
  clear hib
  go_enter Tryz.func237, Tryz.ntmps237
  go_upto_region 1 with fail
  generalize w.alloc (.cells #[.int .i64 rn, .bool st, .bool ou, .int .i64 nu, .int .i64 sa, .int .i64 fi, .slice A n c] 160) = w1 at *
  have pc := P.cell
  have X := hx.below K (Nat.le_refl _)
  cases ib
  · have HR := Lib.hid (show runB ⟨rn, st, ou, nu, sa, fi, ps⟩ = false from HR0.out)
    go_wp2_with (go_at_call 70; refine (inside_any _ _ _ _).mono ?_; rw [HIB.out]; rintro e w' ⟨rfl, rfl⟩)
    go_ret
    rw [HR.out]
    exact ⟨rfl, K⟩
  cases st
  · cases ou
    · have HR := Lib.hid (show runB ⟨rn, false, false, nu, sa, fi, ps⟩ = zeroB ⟨nu, sa, fi, ps⟩ from HR0.out)
      go_wp2_with (go_at_call 70; refine (inside_any _ _ _ _).mono ?_; rw [HIB.out]; rintro e w' ⟨rfl, rfl⟩)
      refine (isZeroCard_any A n c 0 ⟨nu, sa, fi, ps⟩ w1 X).mono ?_
      rintro e w2 ⟨rfl, b⟩
      go_wp2_with fail
      go_ret
      rw [HR.out]
      exact ⟨rfl, bel_then K b⟩
    · have HR := Lib.hid (show runB ⟨rn, false, true, nu, sa, fi, ps⟩ = false from HR0.out)
      go_wp2_with (go_at_call 70; refine (inside_any _ _ _ _).mono ?_; rw [HIB.out]; rintro e w' ⟨rfl, rfl⟩)
      go_ret
      rw [HR.out]
      exact ⟨rfl, K⟩
  · have HR := Lib.hid (show runB ⟨rn, true, ou, nu, sa, fi, ps⟩ = cardB ⟨nu, sa, fi, ps⟩ from HR0.out)
    go_wp2_with (go_at_call 70; refine (inside_any _ _ _ _).mono ?_; rw [HIB.out]; rintro e w' ⟨rfl, rfl⟩)
    refine (IsCard_any A n c 0 ⟨nu, sa, fi, ps⟩ w1 X hn).mono ?_
    rintro e w2 ⟨rfl, b⟩
    go_wp2_with fail
    go_ret
    rw [HR.out]
    exact ⟨rfl, bel_then K b⟩

set_option maxRecDepth 100000 in
set_option maxHeartbeats 2000000 in
theorem l15One_any (A : Option Addr) (n c : Nat) (x : RunE) (w : World) (hx : Sees w 0 2 A n (x.punches.flatMap Punch.enc)) (hn : n ≤ 1048576) :
    Calls Tryz.prog 200 #[.agg #[.int .i64 x.runner, .bool x.started, .bool x.out, .int .i64 x.number, .int .i64 x.start, .int .i64 x.finish, .slice A n c]] w fun e w' => e = .returned (.bool (runB x)) ∧ Below w.heap.size w w' := by
  obtain ⟨rn, st, ou, nu, sa, fi, ps⟩ := x
  dsimp only at *
  have hl := hx.count (by decide) (fun _ => rfl)
  have K : Below w.heap.size w (w.alloc (.cells #[.int .i64 rn, .bool st, .bool ou, .int .i64 nu, .int .i64 sa, .int .i64 fi, .slice A n c] 160)) := (Below.refl w.heap.size w).alloc (Nat.le_refl _) _
  have P : Blk (w.alloc (.cells #[.int .i64 rn, .bool st, .bool ou, .int .i64 nu, .int .i64 sa, .int .i64 fi, .slice A n c] 160)) w.heap.size 160 [.int .i64 rn, .bool st, .bool ou, .int .i64 nu, .int .i64 sa, .int .i64 fi, .slice A n c] := Blk.at_ rfl
  obtain ⟨ib, hib⟩ : ∃ ib, inB rn 1 99 = ib := ⟨_, rfl⟩
  have HIB := Lib.hid hib
  have HR0 := Lib.hid (show runB ⟨rn, st, ou, nu, sa, fi, ps⟩ = (ib && (if st then cardB ⟨nu, sa, fi, ps⟩ else !ou && zeroB ⟨nu, sa, fi, ps⟩)) by unfold runB RunE.card; dsimp only; rw [hib])
  clear hib
  go_enter Tryz.func200, Tryz.ntmps200
  go_upto_region 1 with fail
  generalize w.alloc (.cells #[.int .i64 rn, .bool st, .bool ou, .int .i64 nu, .int .i64 sa, .int .i64 fi, .slice A n c] 160) = w1 at *
  have pc := P.cell
  have X := hx.below K (Nat.le_refl _)
  cases ib
  · have HR := Lib.hid (show runB ⟨rn, st, ou, nu, sa, fi, ps⟩ = false from HR0.out)
    clear hl
    go_wp2_with (go_at_call 111; refine (l1In_any _ _ _ _).mono ?_; rw [HIB.out]; rintro e w' ⟨rfl, rfl⟩)
    go_ret
    rw [HR.out]
    exact ⟨rfl, K⟩
  cases st
  · cases ou
    · have HR := Lib.hid (show runB ⟨rn, false, false, nu, sa, fi, ps⟩ = zeroB ⟨nu, sa, fi, ps⟩ from HR0.out)
      obtain ⟨zb, hzb⟩ : ∃ zb, zeroB ⟨nu, sa, fi, ps⟩ = zb := ⟨_, rfl⟩
      have HZ0 := Lib.hid (show zeroB ⟨nu, sa, fi, ps⟩ = (decide (nu = 0) && (decide (sa = 0) && (decide (fi = 0) && decide (ps.length = 0)))) from rfl)
      by_cases h0 : nu = 0
      rotate_left 1
      · have f0 : (nu == 0) = false := beq_eq_false_iff_ne.2 h0
        have HZ := Lib.hid (show runB ⟨rn, false, false, nu, sa, fi, ps⟩ = false by rw [HR.out, HZ0.out, decide_eq_false h0]; rfl)
        clear h0 hl hzb
        go_wp2_with (go_at_call 111; refine (l1In_any _ _ _ _).mono ?_; rw [HIB.out]; rintro e w' ⟨rfl, rfl⟩)
        go_ret
        rw [HZ.out]
        exact ⟨rfl, K⟩
      have f0 : (nu == 0) = true := beq_iff_eq.2 h0
      have H0 := Lib.hid (decide_eq_true h0)
      clear h0
      by_cases h1 : sa = 0
      rotate_left 1
      · have f1 : (sa == 0) = false := beq_eq_false_iff_ne.2 h1
        have HZ := Lib.hid (show runB ⟨rn, false, false, nu, sa, fi, ps⟩ = false by rw [HR.out, HZ0.out, H0.out, decide_eq_false h1]; rfl)
        clear h1 hl hzb
        go_wp2_with (go_at_call 111; refine (l1In_any _ _ _ _).mono ?_; rw [HIB.out]; rintro e w' ⟨rfl, rfl⟩)
        go_ret
        rw [HZ.out]
        exact ⟨rfl, K⟩
      have f1 : (sa == 0) = true := beq_iff_eq.2 h1
      have H1 := Lib.hid (decide_eq_true h1)
      clear h1
      by_cases h2 : fi = 0
      rotate_left 1
      · have f2 : (fi == 0) = false := beq_eq_false_iff_ne.2 h2
        have HZ := Lib.hid (show runB ⟨rn, false, false, nu, sa, fi, ps⟩ = false by rw [HR.out, HZ0.out, H0.out, H1.out, decide_eq_false h2]; rfl)
        clear h2 hl hzb
        go_wp2_with (go_at_call 111; refine (l1In_any _ _ _ _).mono ?_; rw [HIB.out]; rintro e w' ⟨rfl, rfl⟩)
        go_ret
        rw [HZ.out]
        exact ⟨rfl, K⟩
      have f2 : (fi == 0) = true := beq_iff_eq.2 h2
      have H2 := Lib.hid (decide_eq_true h2)
      clear h2
      by_cases h3 : n = 0
      · have f3 : ((n : Int) == 0) = true := beq_iff_eq.2 (by omega)
        have HZ := Lib.hid (show runB ⟨rn, false, false, nu, sa, fi, ps⟩ = true by rw [HR.out, HZ0.out, H0.out, H1.out, H2.out, decide_eq_true (show ps.length = 0 by omega)]; rfl)
        clear h3 hl hzb
        go_wp2_with (go_at_call 111; refine (l1In_any _ _ _ _).mono ?_; rw [HIB.out]; rintro e w' ⟨rfl, rfl⟩)
        go_ret
        rw [HZ.out]
        exact ⟨rfl, K⟩
      · have f3 : ((n : Int) == 0) = false := beq_eq_false_iff_ne.2 (by omega)
        have HZ := Lib.hid (show runB ⟨rn, false, false, nu, sa, fi, ps⟩ = false by rw [HR.out, HZ0.out, H0.out, H1.out, H2.out, decide_eq_false (show ¬ ps.length = 0 by omega)]; rfl)
        clear h3 hl hzb
        go_wp2_with (go_at_call 111; refine (l1In_any _ _ _ _).mono ?_; rw [HIB.out]; rintro e w' ⟨rfl, rfl⟩)
        go_ret
        rw [HZ.out]
        exact ⟨rfl, K⟩
    · have HR := Lib.hid (show runB ⟨rn, false, true, nu, sa, fi, ps⟩ = false from HR0.out)
      clear hl
      go_wp2_with (go_at_call 111; refine (l1In_any _ _ _ _).mono ?_; rw [HIB.out]; rintro e w' ⟨rfl, rfl⟩)
      go_ret
      rw [HR.out]
      exact ⟨rfl, K⟩
  · have HR := Lib.hid (show runB ⟨rn, true, ou, nu, sa, fi, ps⟩ = cardB ⟨nu, sa, fi, ps⟩ from HR0.out)
    clear hl
    go_wp2_with (go_at_call 111; refine (l1In_any _ _ _ _).mono ?_; rw [HIB.out]; rintro e w' ⟨rfl, rfl⟩)
    refine (l12Card_any A n c 0 ⟨nu, sa, fi, ps⟩ w1 X hn).mono ?_
    rintro e w2 ⟨rfl, b⟩
    go_wp2_with fail
    go_ret
    rw [HR.out]
    exact ⟨rfl, bel_then K b⟩

end Go.Proofs.YtflpcdffmpfdpaaGreatDoor

namespace Go.Proofs.YtflpcdffmpfdpaaGreatDoor
open Go.RowKit

structure LogRecord where
  command : ByteArray
  reply : ByteArray
deriving DecidableEq
def LogRecord.enc (x : LogRecord) : List Value := [.string x.command, .string x.reply]
/-- its strings are no longer than m -/
def LogRecord.upto (m : Nat) (x : LogRecord) : Prop := x.command.size ≤ m ∧ x.reply.size ≤ m
theorem info_impl_LogRecord : (Tryz.prog.info? 69).map (fun i => (i.zero, i.size, i.bytes)) = some (some (.agg #[.string ⟨#[]⟩, .string ⟨#[]⟩]), 2, 32) := by kernel_rfl
def LogRecord.mark (k : Int) : LogRecord := ⟨markT (k), markT (k + 1)⟩

end Go.Proofs.YtflpcdffmpfdpaaGreatDoor
