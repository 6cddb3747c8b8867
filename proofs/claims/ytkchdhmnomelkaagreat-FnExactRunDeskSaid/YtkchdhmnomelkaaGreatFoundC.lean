/- Which punches of a card have the codes of a list; the codes that are missing. -/
import Derived.Test.YtkchdhmnomelkaaGreatCard
import Derived.Test.YtkchdhmnomelkaaGreatCopy
namespace Go.Proofs.YtkchdhmnomelkaaGreat
open Go.RowKit

def isCd (v : Int) (p : Punch) : Bool := decide (p.code = v)
/-- The place of the first punch with a code, counted from j; -1 if there is none. -/
def scanI : List Punch → Int → Nat → Int
  | [], _, _ => -1
  | p :: l, c, j => if isCd c p then (j : Int) else scanI l c (j + 1)
theorem scan_none {c : Int} : ∀ (l : List Punch) (j : Nat), l.any (isCd c) = false → scanI l c j = -1
  | [], _, _ => rfl
  | p :: l, j, h => by
    simp only [List.any_cons, Bool.or_eq_false_iff] at h
    simp only [scanI, h.1, Bool.false_eq_true, if_false]
    exact scan_none l (j + 1) h.2
theorem scan_at {c : Int} : ∀ (l : List Punch) (j k : Nat) (hk : k < l.length), isCd c l[k] = true → (l.take k).any (isCd c) = false → scanI l c j = ((j + k : Nat) : Int)
  | [], _, _, hk, _, _ => absurd hk (by simp)
  | p :: l, j, 0, _, h, _ => by
    simp only [List.getElem_cons_zero] at h
    simp only [scanI, h, if_true, Nat.add_zero]
  | p :: l, j, k + 1, hk, h, hb => by
    simp only [List.take_succ_cons, List.any_cons, Bool.or_eq_false_iff] at hb
    simp only [scanI, hb.1, Bool.false_eq_true, if_false]
    rw [scan_at l (j + 1) k (by simpa using hk) (by simpa using h) hb.2]
    congr 1
    omega
def fStep (ps : List Punch) (st : List Int × Nat) (c : Int) : List Int × Nat :=
  if scanI (ps.drop st.2) c st.2 < 0 then (st.1 ++ [-1], st.2) else (st.1 ++ [scanI (ps.drop st.2) c st.2], (scanI (ps.drop st.2) c st.2).toNat + 1)
def fTo (ps : List Punch) (cs : List Int) (k : Nat) : List Int × Nat := (cs.take k).foldl (fStep ps) ([], 0)
def foundL (ps : List Punch) (cs : List Int) : List Int := (fTo ps cs cs.length).1
theorem fTo_next (ps : List Punch) (cs : List Int) {k : Nat} (hk : k < cs.length) : fTo ps cs (k + 1) = fStep ps (fTo ps cs k) cs[k] := by
  unfold fTo
  rw [List.take_succ_eq_append_getElem hk, List.foldl_append]
  rfl
theorem fStep_no {ps : List Punch} {out : List Int} {nx : Nat} {c : Int} (h : (ps.drop nx).any (isCd c) = false) : fStep ps (out, nx) c = (out ++ [-1], nx) := by
  unfold fStep
  rw [scan_none _ _ h, if_pos (by decide)]
theorem fStep_yes {ps : List Punch} {out : List Int} {nx k : Nat} {c : Int} (hk : k < (ps.drop nx).length) (h : isCd c (ps.drop nx)[k] = true) (hb : ((ps.drop nx).take k).any (isCd c) = false) : fStep ps (out, nx) c = (out ++ [((nx + k : Nat) : Int)], nx + k + 1) := by
  unfold fStep
  rw [scan_at _ _ k hk h hb, if_neg (by omega)]
  simp only [Int.toNat_natCast]
theorem SeesAt.drop {α : Type} {enc : α → List Value} {w : World} {lo s n b off : Nat} {xs : List α} (h : Sees w lo s (some ⟨b, off, none⟩) n (xs.flatMap enc)) (hs : 0 < s) (henc : ∀ x, (enc x).length = s) (k : Nat) (hk : k ≤ n) : Sees w lo s (some ⟨b, off + k * s, none⟩) (n - k) ((xs.drop k).flatMap enc) := by
  have hl := h.count hs henc
  refine ⟨by rw [flatMap_len _ (fun x _ => henc x), List.length_drop, hl], fun h0 => ?_⟩
  obtain ⟨b', off', e, h1, h2, h3⟩ := h.at' (by omega)
  obtain ⟨rfl, rfl⟩ : b = b' ∧ off = off' := by simpa using e
  refine ⟨b, off + k * s, rfl, h1, h2, fun j u hu => ?_⟩
  have hj : j < (n - k) * s := by
    have := (List.getElem?_eq_some_iff.1 hu).1
    rwa [flatMap_len _ (fun x _ => henc x), List.length_drop, hl] at this
  have h4 := h3 (k * s + j) u (by
    have e1 : xs.flatMap enc = (xs.take k).flatMap enc ++ (xs.drop k).flatMap enc := by rw [← List.flatMap_append, List.take_append_drop]
    rw [e1, List.getElem?_append_right (by rw [flatMap_len _ (fun x _ => henc x), List.length_take]; have : min k xs.length = k := by omega
                                           rw [this]; omega), flatMap_len _ (fun x _ => henc x), List.length_take, show min k xs.length = k by omega, Nat.add_sub_cancel_left, hu])
  rwa [← Nat.add_assoc] at h4

set_option maxRecDepth 100000 in
theorem IndexFunc_Punch (g : Nat) (lb : Array Value) (p : Punch → Bool) (A : Option Addr) (n c : Nat) (xs : List Punch) (w : World) (hx : Sees w 0 2 A n (xs.flatMap Punch.enc)) (hn : n ≤ 140737488355328) (hp : Answers g lb (fun x : Punch => .agg x.enc.toArray) p xs w) :
    Calls Tryz.prog 116 #[.slice A n c, .func (.func g) #[] lb] w fun e w' => ∃ r, e = .returned (.int .i64 r) ∧ FirstAt p xs r ∧ Below w.heap.size w w' := by
  have hl := hx.count (by decide) (fun _ => rfl)
  have eg := hp.enters
  go_enter Tryz.func116, Tryz.ntmps116
  go_wp2_with fail
  go_loopw [8] (fun v wr => ∃ k : Nat, k ≤ n ∧ v = .int .i64 k ∧ Hid ((xs.take k).any p = false) ∧ Below w.heap.size w wr) (fun v _ => n - (intOf v).toNat)
  case atStart => exact ⟨0, Nat.zero_le _, rfl, by simp [Hid], Below.refl _ _⟩
  case round =>
    obtain ⟨k, hk, rfl, ht, hb⟩ := hrel
    by_cases hlt : k < n
    · obtain ⟨b, off, rfl, hkx, c0, c1⟩ := (hx.next hb).elem2 (fun _ => rfl) hlt
      go_wp2_with fail
      refine (hp.at' k hkx _ hb).mono ?_
      cases hpk : p xs[k]
      · rintro e w1 ⟨rfl, b1⟩
        go_wp2_with fail
        go_roundw
        case rel => exact ⟨k + 1, by omega, by go_num, any_take_succ hkx ht.out hpk, bel_then hb b1⟩
        case measure => simp [intOf]; omega
      · rintro e w1 ⟨rfl, b1⟩
        go_wp2_with fail
        go_ret
        exact ⟨_, rfl, .inr ⟨k, rfl, hkx, hpk, ht.out⟩, bel_then hb b1⟩
    · go_wp2_with fail
      go_ret
      have h := ht.out
      rw [List.take_of_length_le (by omega)] at h
      exact ⟨_, rfl, .inl ⟨rfl, h⟩, hb⟩

theorem foundAt1_any (p : Punch) (v : Int) (B : Nat) (w : World) (h1 : w.cell? ⟨B, 0, none⟩ = some (.int .i64 v)) (hB : B < w.heap.size) :
    Calls Tryz.prog 117 #[.agg #[.int .i64 p.code, .int .i64 p.time], .pointer (some ⟨B, 0, none⟩)] w fun e w' => e = .returned (.bool (isCd v p)) ∧ Below w.heap.size w w' := by
  have K0 : Below w.heap.size w (w.alloc (.cells #[.int .i64 p.code, .int .i64 p.time] 106)) := (Below.refl _ _).alloc (Nat.le_refl _) _
  have HE := Lib.hid (show isCd v p = (p.code == v) by rw [isCd, Bool.eq_iff_iff]; simp)
  go_enter Tryz.func117, Tryz.ntmps117
  go_wp2_with fail
  go_ret
  exact ⟨ret_bool HE.out.symm, K0⟩
theorem foundAt1_answers (ps : List Punch) (v : Int) (B : Nat) (w : World) (h1 : Blk w B 3 [.int .i64 v]) :
    Answers 117 #[.pointer (some ⟨B, 0, none⟩)] (fun x : Punch => .agg x.enc.toArray) (isCd v) ps w :=
  ⟨enters_of Tryz.func117 (by kernel_rfl) rfl, fun i hi W hb => foundAt1_any ps[i] v B W ((h1.next hb).cell 0) (h1.next hb).lt⟩

set_option maxRecDepth 100000 in
set_option maxHeartbeats 8000000 in
theorem foundAt_any (A : Option Addr) (n c : Nat) (x : Card) (B : Option Addr) (m e : Nat) (cs : List Int) (w : World) (hx : Sees w 0 2 A n (x.punches.flatMap Punch.enc)) (hn : n ≤ 1048576) (hnc : n ≤ c) (hy : Sees w 0 1 B m (ints cs)) (hm : m ≤ 1048576) :
    Calls Tryz.prog 104 #[.agg #[.int .i64 x.number, .int .i64 x.start, .int .i64 x.finish, .slice A n c], .slice B m e] w (GivesL w (foundL x.punches cs)) := by
  have hmf : ∀ (fn : Fn) (first cap : Array Value) (w : World), (Instr.makeFunc fn first cap).run Tryz.prog w = .ok (.func fn first cap) w := fun _ _ _ _ => rfl
  have HL := Lib.hid (hx.count (by decide) (fun _ => rfl))
  have HM := Lib.hid hy.icount
  have K0 : Below w.heap.size w ((w.alloc (.cells #[.int .i64 x.number, .int .i64 x.start, .int .i64 x.finish, .slice A n c] 43)).alloc (.cells #[] 3)) := ((Below.refl _ _).alloc (Nat.le_refl _) _).alloc (by simp) _
  have P0 : Blk ((w.alloc (.cells #[.int .i64 x.number, .int .i64 x.start, .int .i64 x.finish, .slice A n c] 43)).alloc (.cells #[] 3)) w.heap.size 43 [.int .i64 x.number, .int .i64 x.start, .int .i64 x.finish, .slice A n c] := (Blk.at_ rfl).alloc _
  have o0 := own_empty_at (w := (w.alloc (.cells #[.int .i64 x.number, .int .i64 x.start, .int .i64 x.finish, .slice A n c] 43))) (g := w.heap.size + 1) 3 1 (by simp)
  go_enter Tryz.func104, Tryz.ntmps104
  go_wp2_with fail
  go_loopw [5, 6, 13] (fun v q i wr => ∃ (k : Nat) (out : List Int) (nx : Nat) (A' : Option Addr) (c' : Nat), k ≤ m ∧ i = .int .i64 (k : Int) ∧ q = .int .i64 (nx : Int) ∧ v = .slice A' k c' ∧ wr.ownsRow (w.heap.size + 1) 3 1 (.slice A' k c') k (ints out) ∧ nx ≤ n ∧ Hid (fTo x.punches cs k = (out, nx)) ∧ Blk wr w.heap.size 43 [.int .i64 x.number, .int .i64 x.start, .int .i64 x.finish, .slice A n c] ∧ Below w.heap.size w wr) (fun _ _ i _ => m - (intOf i).toNat)
  case atStart => exact ⟨0, [], 0, _, 0, Nat.zero_le _, rfl, rfl, rfl, o0, Nat.zero_le _, Lib.hid rfl, P0, K0⟩
  case round =>
    obtain ⟨k, out, nx, A', c', hk, rfl, rfl, rfl, own, hnx, HO, PB, hb⟩ := hrel
    clear o0 P0 K0
    by_cases hlt : k < m
    · obtain ⟨bk, offk, rfl, hkx, x0⟩ := (hy.next hb).int hlt
      have hblt := World.block_lt_of_cell? wr _ x0
      have hbm := PB.lt
      have hxr := hx.next (hb.alloc hb.size (.cells #[.int .i64 cs[k]] 3))
      have K3 := hb.alloc hb.size (.cells #[.int .i64 cs[k]] 3)
      have P3 := PB.alloc (.cells #[.int .i64 cs[k]] 3)
      have own3 := own_alloc own (.cells #[.int .i64 cs[k]] 3)
      have ans := foundAt1_answers (x.punches.drop nx) cs[k] wr.heap.size (wr.alloc (.cells #[.int .i64 cs[k]] 3)) (Blk.at_ rfl)
      have pc := P3.cell
      have hnc2 : nx ≤ c := by omega
      by_cases hend : nx = n
      · have hsub : ∀ B' : Option Addr, Sees (wr.alloc (.cells #[.int .i64 cs[k]] 3)) 0 2 B' (n - nx) ((x.punches.drop nx).flatMap Punch.enc) := fun B' => by
          rw [List.drop_of_length_le (by rw [HL.out]; omega), show n - nx = 0 by omega]; exact Sees.nil _ _ _ _
        have hsub0 : ∀ B' : Option Addr, Sees (wr.alloc (.cells #[.int .i64 cs[k]] 3)) 0 2 B' 0 ((x.punches.drop nx).flatMap Punch.enc) := fun B' => by
          rw [List.drop_of_length_le (by rw [HL.out]; omega)]; exact Sees.nil _ _ _ _
        have hnn : (nx : Int) ≤ (n : Int) := by omega
        have HEND := Lib.hid (show (x.punches.drop nx).length = 0 by rw [List.length_drop, HL.out]; omega)
        clear hend
        by_cases hcn : c = nx
        · have hcn2 : nx = c := hcn.symm
          subst hcn2
          clear hcn
          cases A with
          | none =>
            go_wp2_with fail
            first
              | ((with_reducible refine (IndexFunc_Punch 117 #[.pointer (some ⟨wr.heap.size, 0, none⟩)] _ _ _ _ (x.punches.drop nx) _ (hsub0 _) (by omega) ans).mono ?_))
              | ((with_reducible refine (IndexFunc_Punch 117 #[.pointer (some ⟨wr.heap.size, 0, none⟩)] _ _ _ _ (x.punches.drop nx) _ (hsub _) (by omega) ans).mono ?_))
            rintro e w4 ⟨r, rfl, hr, b4⟩
            have K4 := bel_then K3 b4
            have P4 := P3.next b4
            rcases hr with ⟨rfl, hno⟩ | ⟨j, rfl, hj, hpj, hbj⟩
            · have HN := Lib.hid (show fTo x.punches cs (k + 1) = (out ++ [-1], nx) by rw [fTo_next _ _ hkx, HO.out, fStep_no hno])
              clear hno ans hsub hsub0
              go_wp2_with (at_builtin; go_loud (refine wpList_pushNew rfl _ _ _ rfl Tryz.underlying22 info_int rfl (by decide) rfl (own_below own3 b4) rfl (by simp) (by rfl) (by rfl) (by omega) (by decide) P4.lt ?_); intro A9 c9 w9 o9 h9 b9 q9)
              go_roundw
              case rel => exact ⟨k + 1, out ++ [-1], nx, A9, c9, by omega, by go_num, rfl, rfl, by simpa [ints] using o9, hnx, HN, P4.only h9 (own_not own3 (by omega)), K4.trans (b9.mono (by omega))⟩
              case measure => simp [intOf]; omega
            · exact absurd hj (by rw [HEND.out]; omega)
          | some a =>
            go_wp2_with fail
            first
              | ((with_reducible refine (IndexFunc_Punch 117 #[.pointer (some ⟨wr.heap.size, 0, none⟩)] _ _ _ _ (x.punches.drop nx) _ (hsub0 _) (by omega) ans).mono ?_))
              | ((with_reducible refine (IndexFunc_Punch 117 #[.pointer (some ⟨wr.heap.size, 0, none⟩)] _ _ _ _ (x.punches.drop nx) _ (hsub _) (by omega) ans).mono ?_))
            rintro e w4 ⟨r, rfl, hr, b4⟩
            have K4 := bel_then K3 b4
            have P4 := P3.next b4
            rcases hr with ⟨rfl, hno⟩ | ⟨j, rfl, hj, hpj, hbj⟩
            · have HN := Lib.hid (show fTo x.punches cs (k + 1) = (out ++ [-1], nx) by rw [fTo_next _ _ hkx, HO.out, fStep_no hno])
              clear hno ans hsub hsub0
              go_wp2_with (at_builtin; go_loud (refine wpList_pushNew rfl _ _ _ rfl Tryz.underlying22 info_int rfl (by decide) rfl (own_below own3 b4) rfl (by simp) (by rfl) (by rfl) (by omega) (by decide) P4.lt ?_); intro A9 c9 w9 o9 h9 b9 q9)
              go_roundw
              case rel => exact ⟨k + 1, out ++ [-1], nx, A9, c9, by omega, by go_num, rfl, rfl, by simpa [ints] using o9, hnx, HN, P4.only h9 (own_not own3 (by omega)), K4.trans (b9.mono (by omega))⟩
              case measure => simp [intOf]; omega
            · exact absurd hj (by rw [HEND.out]; omega)
        · cases A with
          | none =>
            go_wp2_with fail
            first
              | ((with_reducible refine (IndexFunc_Punch 117 #[.pointer (some ⟨wr.heap.size, 0, none⟩)] _ _ _ _ (x.punches.drop nx) _ (hsub0 _) (by omega) ans).mono ?_))
              | ((with_reducible refine (IndexFunc_Punch 117 #[.pointer (some ⟨wr.heap.size, 0, none⟩)] _ _ _ _ (x.punches.drop nx) _ (hsub _) (by omega) ans).mono ?_))
            rintro e w4 ⟨r, rfl, hr, b4⟩
            have K4 := bel_then K3 b4
            have P4 := P3.next b4
            rcases hr with ⟨rfl, hno⟩ | ⟨j, rfl, hj, hpj, hbj⟩
            · have HN := Lib.hid (show fTo x.punches cs (k + 1) = (out ++ [-1], nx) by rw [fTo_next _ _ hkx, HO.out, fStep_no hno])
              clear hno ans hsub hsub0
              go_wp2_with (at_builtin; go_loud (refine wpList_pushNew rfl _ _ _ rfl Tryz.underlying22 info_int rfl (by decide) rfl (own_below own3 b4) rfl (by simp) (by rfl) (by rfl) (by omega) (by decide) P4.lt ?_); intro A9 c9 w9 o9 h9 b9 q9)
              go_roundw
              case rel => exact ⟨k + 1, out ++ [-1], nx, A9, c9, by omega, by go_num, rfl, rfl, by simpa [ints] using o9, hnx, HN, P4.only h9 (own_not own3 (by omega)), K4.trans (b9.mono (by omega))⟩
              case measure => simp [intOf]; omega
            · exact absurd hj (by rw [HEND.out]; omega)
          | some a =>
            go_wp2_with fail
            first
              | ((with_reducible refine (IndexFunc_Punch 117 #[.pointer (some ⟨wr.heap.size, 0, none⟩)] _ _ _ _ (x.punches.drop nx) _ (hsub0 _) (by omega) ans).mono ?_))
              | ((with_reducible refine (IndexFunc_Punch 117 #[.pointer (some ⟨wr.heap.size, 0, none⟩)] _ _ _ _ (x.punches.drop nx) _ (hsub _) (by omega) ans).mono ?_))
            rintro e w4 ⟨r, rfl, hr, b4⟩
            have K4 := bel_then K3 b4
            have P4 := P3.next b4
            rcases hr with ⟨rfl, hno⟩ | ⟨j, rfl, hj, hpj, hbj⟩
            · have HN := Lib.hid (show fTo x.punches cs (k + 1) = (out ++ [-1], nx) by rw [fTo_next _ _ hkx, HO.out, fStep_no hno])
              clear hno ans hsub hsub0
              go_wp2_with (at_builtin; go_loud (refine wpList_pushNew rfl _ _ _ rfl Tryz.underlying22 info_int rfl (by decide) rfl (own_below own3 b4) rfl (by simp) (by rfl) (by rfl) (by omega) (by decide) P4.lt ?_); intro A9 c9 w9 o9 h9 b9 q9)
              go_roundw
              case rel => exact ⟨k + 1, out ++ [-1], nx, A9, c9, by omega, by go_num, rfl, rfl, by simpa [ints] using o9, hnx, HN, P4.only h9 (own_not own3 (by omega)), K4.trans (b9.mono (by omega))⟩
              case measure => simp [intOf]; omega
            · exact absurd hj (by rw [HEND.out]; omega)
      · obtain ⟨b, off, rfl, _, _, _⟩ := hx.at' (by omega)
        have hsub := SeesAt.drop hxr (by decide) (fun _ => rfl) nx hnx
        have hcn : ¬ c = nx := by omega
        clear hend
        go_wp2_with fail
        ((with_reducible refine (IndexFunc_Punch 117 #[.pointer (some ⟨wr.heap.size, 0, none⟩)] _ _ _ _ (x.punches.drop nx) _ hsub (by omega) ans).mono ?_))
        rintro e w4 ⟨r, rfl, hr, b4⟩
        have K4 := bel_then K3 b4
        have P4 := P3.next b4
        rcases hr with ⟨rfl, hno⟩ | ⟨j, rfl, hj, hpj, hbj⟩
        · have HN := Lib.hid (show fTo x.punches cs (k + 1) = (out ++ [-1], nx) by rw [fTo_next _ _ hkx, HO.out, fStep_no hno])
          clear hno ans hsub
          go_wp2_with (at_builtin; go_loud (refine wpList_pushNew rfl _ _ _ rfl Tryz.underlying22 info_int rfl (by decide) rfl (own_below own3 b4) rfl (by simp) (by rfl) (by rfl) (by omega) (by decide) P4.lt ?_); intro A9 c9 w9 o9 h9 b9 q9)
          go_roundw
          case rel => exact ⟨k + 1, out ++ [-1], nx, A9, c9, by omega, by go_num, rfl, rfl, by simpa [ints] using o9, hnx, HN, P4.only h9 (own_not own3 (by omega)), K4.trans (b9.mono (by omega))⟩
          case measure => simp [intOf]; omega
        · have HN := Lib.hid (show fTo x.punches cs (k + 1) = (out ++ [((nx + j : Nat) : Int)], nx + j + 1) by rw [fTo_next _ _ hkx, HO.out, fStep_yes hj hpj hbj])
          have hjn : nx + j + 1 ≤ n := by have h := hj; rw [List.length_drop, HL.out] at h; omega
          have hsum : (j : Int) + (nx : Int) = ((nx + j : Nat) : Int) := by omega
          have HSM := Lib.hid hsum
          clear hj hpj hbj ans hsub hsum
          go_wp2_with (at_builtin; go_loud (refine wpList_pushNew rfl _ _ _ rfl Tryz.underlying22 info_int rfl (by decide) rfl (own_below own3 b4) rfl (by simp) (by rfl) (by rfl) (by omega) (by decide) P4.lt ?_); intro A9 c9 w9 o9 h9 b9 q9)
          go_roundw
          case rel => exact ⟨k + 1, out ++ [((nx + j : Nat) : Int)], nx + j + 1, A9, c9, by omega, by go_num, by congr 1; omega, rfl, by rw [← HSM.out]; simpa [ints] using o9, hjn, HN, P4.only h9 (own_not own3 (by omega)), K4.trans (b9.mono (by omega))⟩
          case measure => simp [intOf]; omega
    · obtain rfl : k = m := by omega
      have HE := Lib.hid (show foundL x.punches cs = out by unfold foundL; rw [show cs.length = k from HM.out, HO.out])
      go_wp2_with fail
      go_ret
      rw [HE.out]
      have h9 := own_len own
      subst h9
      exact ⟨A', c', rfl, own_base own (by omega), hb⟩

end Go.Proofs.YtkchdhmnomelkaaGreat
