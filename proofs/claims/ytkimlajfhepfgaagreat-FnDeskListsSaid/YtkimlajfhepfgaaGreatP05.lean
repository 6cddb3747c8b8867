/- Joined texts of this proof: FoundC, MissC, CheckP, CheckS, CheckW. -/
import Derived.Test.YtkimlajfhepfgaaGreatP02
import Derived.Test.YtkimlajfhepfgaaGreatP01
import Derived.Test.YtkimlajfhepfgaaGreatP04
import Derived.Test.YtkimlajfhepfgaaGreatP03
namespace Go.Proofs.YtkimlajfhepfgaaGreat
open Go.RowKit

def isCd (v : Int) (p : Punch) : Bool := decide (p.code = v)
/-- The place of the first punch with a code, counted from j; -1 if there is none. -/
def scanI : List Punch → Int → Nat → Int
  | [], _, _ => -1
  | p :: l, c, j => if isCd c p then (j : Int) else scanI l c (j + 1)
theorem scan_none {c : Int} : ∀ (l : List Punch) (j : Nat), l.any (isCd c) = false → scanI l c j = -1
  | [], _, _ => rfl
  | p :: l, j, h => by
    simp only [List.any_cons, Bool.or_eq_false_iff] at h
    simp only [scanI, h.1, Bool.false_eq_true, if_false]
    exact scan_none l (j + 1) h.2
theorem scan_at {c : Int} : ∀ (l : List Punch) (j k : Nat) (hk : k < l.length), isCd c l[k] = true → (l.take k).any (isCd c) = false → scanI l c j = ((j + k : Nat) : Int)
  | [], _, _, hk, _, _ => absurd hk (by simp)
  | p :: l, j, 0, _, h, _ => by
    simp only [List.getElem_cons_zero] at h
    simp only [scanI, h, if_true, Nat.add_zero]
  | p :: l, j, k + 1, hk, h, hb => by
    simp only [List.take_succ_cons, List.any_cons, Bool.or_eq_false_iff] at hb
    simp only [scanI, hb.1, Bool.false_eq_true, if_false]
    rw [scan_at l (j + 1) k (by simpa using hk) (by simpa using h) hb.2]
    congr 1
    omega
def fStep (ps : List Punch) (st : List Int × Nat) (c : Int) : List Int × Nat :=
  if scanI (ps.drop st.2) c st.2 < 0 then (st.1 ++ [-1], st.2) else (st.1 ++ [scanI (ps.drop st.2) c st.2], (scanI (ps.drop st.2) c st.2).toNat + 1)
def fTo (ps : List Punch) (cs : List Int) (k : Nat) : List Int × Nat := (cs.take k).foldl (fStep ps) ([], 0)
def foundL (ps : List Punch) (cs : List Int) : List Int := (fTo ps cs cs.length).1
theorem fTo_next (ps : List Punch) (cs : List Int) {k : Nat} (hk : k < cs.length) : fTo ps cs (k + 1) = fStep ps (fTo ps cs k) cs[k] := by
  unfold fTo
  rw [List.take_succ_eq_append_getElem hk, List.foldl_append]
  rfl
theorem fStep_no {ps : List Punch} {out : List Int} {nx : Nat} {c : Int} (h : (ps.drop nx).any (isCd c) = false) : fStep ps (out, nx) c = (out ++ [-1], nx) := by
  unfold fStep
  rw [scan_none _ _ h, if_pos (by decide)]
theorem fStep_yes {ps : List Punch} {out : List Int} {nx k : Nat} {c : Int} (hk : k < (ps.drop nx).length) (h : isCd c (ps.drop nx)[k] = true) (hb : ((ps.drop nx).take k).any (isCd c) = false) : fStep ps (out, nx) c = (out ++ [((nx + k : Nat) : Int)], nx + k + 1) := by
  unfold fStep
  rw [scan_at _ _ k hk h hb, if_neg (by omega)]
  simp only [Int.toNat_natCast]
theorem SeesAt.drop {α : Type} {enc : α → List Value} {w : World} {lo s n b off : Nat} {xs : List α} (h : Sees w lo s (some ⟨b, off, none⟩) n (xs.flatMap enc)) (hs : 0 < s) (henc : ∀ x, (enc x).length = s) (k : Nat) (hk : k ≤ n) : Sees w lo s (some ⟨b, off + k * s, none⟩) (n - k) ((xs.drop k).flatMap enc) := by
  have hl := h.count hs henc
  refine ⟨by rw [flatMap_len _ (fun x _ => henc x), List.length_drop, hl], fun h0 => ?_⟩
  obtain ⟨b', off', e, h1, h2, h3⟩ := h.at' (by omega)
  obtain ⟨rfl, rfl⟩ : b = b' ∧ off = off' := by simpa using e
  refine ⟨b, off + k * s, rfl, h1, h2, fun j u hu => ?_⟩
  have hj : j < (n - k) * s := by
    have := (List.getElem?_eq_some_iff.1 hu).1
    rwa [flatMap_len _ (fun x _ => henc x), List.length_drop, hl] at this
  have h4 := h3 (k * s + j) u (by
    have e1 : xs.flatMap enc = (xs.take k).flatMap enc ++ (xs.drop k).flatMap enc := by rw [← List.flatMap_append, List.take_append_drop]
    rw [e1, List.getElem?_append_right (by rw [flatMap_len _ (fun x _ => henc x), List.length_take]; have : min k xs.length = k := by omega
                                           rw [this]; omega), flatMap_len _ (fun x _ => henc x), List.length_take, show min k xs.length = k by omega, Nat.add_sub_cancel_left, hu])
  rwa [← Nat.add_assoc] at h4

set_option maxRecDepth 100000 in
theorem IndexFunc_Punch (g : Nat) (lb : Array Value) (p : Punch → Bool) (A : Option Addr) (n c : Nat) (xs : List Punch) (w : World) (hx : Sees w 0 2 A n (xs.flatMap Punch.enc)) (hn : n ≤ 140737488355328) (hp : Answers g lb (fun x : Punch => .agg x.enc.toArray) p xs w) :
    Calls Tryz.prog 131 #[.slice A n c, .func (.func g) #[] lb] w fun e w' => ∃ r, e = .returned (.int .i64 r) ∧ FirstAt p xs r ∧ Below w.heap.size w w' := by
  have hl := hx.count (by decide) (fun _ => rfl)
  have eg := hp.enters
  go_enter Tryz.func131, Tryz.ntmps131
  go_wp2_with fail
  go_loopw [8] (fun v wr => ∃ k : Nat, k ≤ n ∧ v = .int .i64 k ∧ Hid ((xs.take k).any p = false) ∧ Below w.heap.size w wr) (fun v _ => n - (intOf v).toNat)
  case atStart => exact ⟨0, Nat.zero_le _, rfl, by simp [Hid], Below.refl _ _⟩
  case round =>
    obtain ⟨k, hk, rfl, ht, hb⟩ := hrel
    by_cases hlt : k < n
    · obtain ⟨b, off, rfl, hkx, c0, c1⟩ := (hx.next hb).elem2 (fun _ => rfl) hlt
      go_wp2_with fail
      refine (hp.at' k hkx _ hb).mono ?_
      cases hpk : p xs[k]
      · rintro e w1 ⟨rfl, b1⟩
        go_wp2_with fail
        go_roundw
        case rel => exact ⟨k + 1, by omega, by go_num, any_take_succ hkx ht.out hpk, bel_then hb b1⟩
        case measure => simp [intOf]; omega
      · rintro e w1 ⟨rfl, b1⟩
        go_wp2_with fail
        go_ret
        exact ⟨_, rfl, .inr ⟨k, rfl, hkx, hpk, ht.out⟩, bel_then hb b1⟩
    · go_wp2_with fail
      go_ret
      have h := ht.out
      rw [List.take_of_length_le (by omega)] at h
      exact ⟨_, rfl, .inl ⟨rfl, h⟩, hb⟩

theorem foundAt1_any (p : Punch) (v : Int) (B : Nat) (w : World) (h1 : w.cell? ⟨B, 0, none⟩ = some (.int .i64 v)) (hB : B < w.heap.size) :
    Calls Tryz.prog 132 #[.agg #[.int .i64 p.code, .int .i64 p.time], .pointer (some ⟨B, 0, none⟩)] w fun e w' => e = .returned (.bool (isCd v p)) ∧ Below w.heap.size w w' := by
  have K0 : Below w.heap.size w (w.alloc (.cells #[.int .i64 p.code, .int .i64 p.time] 109)) := (Below.refl _ _).alloc (Nat.le_refl _) _
  have HE := Lib.hid (show isCd v p = (p.code == v) by rw [isCd, Bool.eq_iff_iff]; simp)
  go_enter Tryz.func132, Tryz.ntmps132
  go_wp2_with fail
  go_ret
  exact ⟨ret_bool HE.out.symm, K0⟩
theorem foundAt1_answers (ps : List Punch) (v : Int) (B : Nat) (w : World) (h1 : Blk w B 3 [.int .i64 v]) :
    Answers 132 #[.pointer (some ⟨B, 0, none⟩)] (fun x : Punch => .agg x.enc.toArray) (isCd v) ps w :=
  ⟨enters_of Tryz.func132 (by kernel_rfl) rfl, fun i hi W hb => foundAt1_any ps[i] v B W ((h1.next hb).cell 0) (h1.next hb).lt⟩

set_option maxRecDepth 100000 in
set_option maxHeartbeats 8000000 in
theorem foundAt_any (A : Option Addr) (n c : Nat) (x : Card) (B : Option Addr) (m e : Nat) (cs : List Int) (w : World) (hx : Sees w 0 2 A n (x.punches.flatMap Punch.enc)) (hn : n ≤ 1048576) (hnc : n ≤ c) (hy : Sees w 0 1 B m (ints cs)) (hm : m ≤ 1048576) :
    Calls Tryz.prog 110 #[.agg #[.int .i64 x.number, .int .i64 x.start, .int .i64 x.finish, .slice A n c], .slice B m e] w (GivesL w (foundL x.punches cs)) := by
  have hmf : ∀ (fn : Fn) (first cap : Array Value) (w : World), (Instr.makeFunc fn first cap).run Tryz.prog w = .ok (.func fn first cap) w := fun _ _ _ _ => rfl
  have HL := Lib.hid (hx.count (by decide) (fun _ => rfl))
  have HM := Lib.hid hy.icount
  have K0 : Below w.heap.size w ((w.alloc (.cells #[.int .i64 x.number, .int .i64 x.start, .int .i64 x.finish, .slice A n c] 31)).alloc (.cells #[] 3)) := ((Below.refl _ _).alloc (Nat.le_refl _) _).alloc (by simp) _
  have P0 : Blk ((w.alloc (.cells #[.int .i64 x.number, .int .i64 x.start, .int .i64 x.finish, .slice A n c] 31)).alloc (.cells #[] 3)) w.heap.size 31 [.int .i64 x.number, .int .i64 x.start, .int .i64 x.finish, .slice A n c] := (Blk.at_ rfl).alloc _
  have o0 := own_empty_at (w := (w.alloc (.cells #[.int .i64 x.number, .int .i64 x.start, .int .i64 x.finish, .slice A n c] 31))) (g := w.heap.size + 1) 3 1 (by simp)
  go_enter Tryz.func110, Tryz.ntmps110
  go_wp2_with fail
  go_loopw [5, 6, 13] (fun v q i wr => ∃ (k : Nat) (out : List Int) (nx : Nat) (A' : Option Addr) (c' : Nat), k ≤ m ∧ i = .int .i64 (k : Int) ∧ q = .int .i64 (nx : Int) ∧ v = .slice A' k c' ∧ wr.ownsRow (w.heap.size + 1) 3 1 (.slice A' k c') k (ints out) ∧ nx ≤ n ∧ Hid (fTo x.punches cs k = (out, nx)) ∧ Blk wr w.heap.size 31 [.int .i64 x.number, .int .i64 x.start, .int .i64 x.finish, .slice A n c] ∧ Below w.heap.size w wr) (fun _ _ i _ => m - (intOf i).toNat)
  case atStart => exact ⟨0, [], 0, _, 0, Nat.zero_le _, rfl, rfl, rfl, o0, Nat.zero_le _, Lib.hid rfl, P0, K0⟩
  case round =>
    obtain ⟨k, out, nx, A', c', hk, rfl, rfl, rfl, own, hnx, HO, PB, hb⟩ := hrel
    clear o0 P0 K0
    by_cases hlt : k < m
    · obtain ⟨bk, offk, rfl, hkx, x0⟩ := (hy.next hb).int hlt
      have hblt := World.block_lt_of_cell? wr _ x0
      have hbm := PB.lt
      have hxr := hx.next (hb.alloc hb.size (.cells #[.int .i64 cs[k]] 3))
      have K3 := hb.alloc hb.size (.cells #[.int .i64 cs[k]] 3)
      have P3 := PB.alloc (.cells #[.int .i64 cs[k]] 3)
      have own3 := own_alloc own (.cells #[.int .i64 cs[k]] 3)
      have ans := foundAt1_answers (x.punches.drop nx) cs[k] wr.heap.size (wr.alloc (.cells #[.int .i64 cs[k]] 3)) (Blk.at_ rfl)
      have pc := P3.cell
      have hnc2 : nx ≤ c := by omega
      by_cases hend : nx = n
      · have hsub : ∀ B' : Option Addr, Sees (wr.alloc (.cells #[.int .i64 cs[k]] 3)) 0 2 B' (n - nx) ((x.punches.drop nx).flatMap Punch.enc) := fun B' => by
          rw [List.drop_of_length_le (by rw [HL.out]; omega), show n - nx = 0 by omega]; exact Sees.nil _ _ _ _
        have hsub0 : ∀ B' : Option Addr, Sees (wr.alloc (.cells #[.int .i64 cs[k]] 3)) 0 2 B' 0 ((x.punches.drop nx).flatMap Punch.enc) := fun B' => by
          rw [List.drop_of_length_le (by rw [HL.out]; omega)]; exact Sees.nil _ _ _ _
        have hnn : (nx : Int) ≤ (n : Int) := by omega
        have HEND := Lib.hid (show (x.punches.drop nx).length = 0 by rw [List.length_drop, HL.out]; omega)
        clear hend
        by_cases hcn : c = nx
        · have hcn2 : nx = c := hcn.symm
          subst hcn2
          clear hcn
          cases A with
          | none =>
            go_wp2_with fail
            first
              | ((with_reducible refine (IndexFunc_Punch 132 #[.pointer (some ⟨wr.heap.size, 0, none⟩)] _ _ _ _ (x.punches.drop nx) _ (hsub0 _) (by omega) ans).mono ?_))
              | ((with_reducible refine (IndexFunc_Punch 132 #[.pointer (some ⟨wr.heap.size, 0, none⟩)] _ _ _ _ (x.punches.drop nx) _ (hsub _) (by omega) ans).mono ?_))
            rintro e w4 ⟨r, rfl, hr, b4⟩
            have K4 := bel_then K3 b4
            have P4 := P3.next b4
            rcases hr with ⟨rfl, hno⟩ | ⟨j, rfl, hj, hpj, hbj⟩
            · have HN := Lib.hid (show fTo x.punches cs (k + 1) = (out ++ [-1], nx) by rw [fTo_next _ _ hkx, HO.out, fStep_no hno])
              clear hno ans hsub hsub0
              go_wp2_with (at_builtin; go_loud (refine wpList_pushNew rfl _ _ _ rfl Tryz.underlying24 info_int rfl (by decide) rfl (own_below own3 b4) rfl (by simp) (by rfl) (by rfl) (by omega) (by decide) P4.lt ?_); intro A9 c9 w9 o9 h9 b9 q9)
              go_roundw
              case rel => exact ⟨k + 1, out ++ [-1], nx, A9, c9, by omega, by go_num, rfl, rfl, by simpa [ints] using o9, hnx, HN, P4.only h9 (own_not own3 (by omega)), K4.trans (b9.mono (by omega))⟩
              case measure => simp [intOf]; omega
            · exact absurd hj (by rw [HEND.out]; omega)
          | some a =>
            go_wp2_with fail
            first
              | ((with_reducible refine (IndexFunc_Punch 132 #[.pointer (some ⟨wr.heap.size, 0, none⟩)] _ _ _ _ (x.punches.drop nx) _ (hsub0 _) (by omega) ans).mono ?_))
              | ((with_reducible refine (IndexFunc_Punch 132 #[.pointer (some ⟨wr.heap.size, 0, none⟩)] _ _ _ _ (x.punches.drop nx) _ (hsub _) (by omega) ans).mono ?_))
            rintro e w4 ⟨r, rfl, hr, b4⟩
            have K4 := bel_then K3 b4
            have P4 := P3.next b4
            rcases hr with ⟨rfl, hno⟩ | ⟨j, rfl, hj, hpj, hbj⟩
            · have HN := Lib.hid (show fTo x.punches cs (k + 1) = (out ++ [-1], nx) by rw [fTo_next _ _ hkx, HO.out, fStep_no hno])
              clear hno ans hsub hsub0
              go_wp2_with (at_builtin; go_loud (refine wpList_pushNew rfl _ _ _ rfl Tryz.underlying24 info_int rfl (by decide) rfl (own_below own3 b4) rfl (by simp) (by rfl) (by rfl) (by omega) (by decide) P4.lt ?_); intro A9 c9 w9 o9 h9 b9 q9)
              go_roundw
              case rel => exact ⟨k + 1, out ++ [-1], nx, A9, c9, by omega, by go_num, rfl, rfl, by simpa [ints] using o9, hnx, HN, P4.only h9 (own_not own3 (by omega)), K4.trans (b9.mono (by omega))⟩
              case measure => simp [intOf]; omega
            · exact absurd hj (by rw [HEND.out]; omega)
        · cases A with
          | none =>
            go_wp2_with fail
            first
              | ((with_reducible refine (IndexFunc_Punch 132 #[.pointer (some ⟨wr.heap.size, 0, none⟩)] _ _ _ _ (x.punches.drop nx) _ (hsub0 _) (by omega) ans).mono ?_))
              | ((with_reducible refine (IndexFunc_Punch 132 #[.pointer (some ⟨wr.heap.size, 0, none⟩)] _ _ _ _ (x.punches.drop nx) _ (hsub _) (by omega) ans).mono ?_))
            rintro e w4 ⟨r, rfl, hr, b4⟩
            have K4 := bel_then K3 b4
            have P4 := P3.next b4
            rcases hr with ⟨rfl, hno⟩ | ⟨j, rfl, hj, hpj, hbj⟩
            · have HN := Lib.hid (show fTo x.punches cs (k + 1) = (out ++ [-1], nx) by rw [fTo_next _ _ hkx, HO.out, fStep_no hno])
              clear hno ans hsub hsub0
              go_wp2_with (at_builtin; go_loud (refine wpList_pushNew rfl _ _ _ rfl Tryz.underlying24 info_int rfl (by decide) rfl (own_below own3 b4) rfl (by simp) (by rfl) (by rfl) (by omega) (by decide) P4.lt ?_); intro A9 c9 w9 o9 h9 b9 q9)
              go_roundw
              case rel => exact ⟨k + 1, out ++ [-1], nx, A9, c9, by omega, by go_num, rfl, rfl, by simpa [ints] using o9, hnx, HN, P4.only h9 (own_not own3 (by omega)), K4.trans (b9.mono (by omega))⟩
              case measure => simp [intOf]; omega
            · exact absurd hj (by rw [HEND.out]; omega)
          | some a =>
            go_wp2_with fail
            first
              | ((with_reducible refine (IndexFunc_Punch 132 #[.pointer (some ⟨wr.heap.size, 0, none⟩)] _ _ _ _ (x.punches.drop nx) _ (hsub0 _) (by omega) ans).mono ?_))
              | ((with_reducible refine (IndexFunc_Punch 132 #[.pointer (some ⟨wr.heap.size, 0, none⟩)] _ _ _ _ (x.punches.drop nx) _ (hsub _) (by omega) ans).mono ?_))
            rintro e w4 ⟨r, rfl, hr, b4⟩
            have K4 := bel_then K3 b4
            have P4 := P3.next b4
            rcases hr with ⟨rfl, hno⟩ | ⟨j, rfl, hj, hpj, hbj⟩
            · have HN := Lib.hid (show fTo x.punches cs (k + 1) = (out ++ [-1], nx) by rw [fTo_next _ _ hkx, HO.out, fStep_no hno])
              clear hno ans hsub hsub0
              go_wp2_with (at_builtin; go_loud (refine wpList_pushNew rfl _ _ _ rfl Tryz.underlying24 info_int rfl (by decide) rfl (own_below own3 b4) rfl (by simp) (by rfl) (by rfl) (by omega) (by decide) P4.lt ?_); intro A9 c9 w9 o9 h9 b9 q9)
              go_roundw
              case rel => exact ⟨k + 1, out ++ [-1], nx, A9, c9, by omega, by go_num, rfl, rfl, by simpa [ints] using o9, hnx, HN, P4.only h9 (own_not own3 (by omega)), K4.trans (b9.mono (by omega))⟩
              case measure => simp [intOf]; omega
            · exact absurd hj (by rw [HEND.out]; omega)
      · obtain ⟨b, off, rfl, _, _, _⟩ := hx.at' (by omega)
        have hsub := SeesAt.drop hxr (by decide) (fun _ => rfl) nx hnx
        have hcn : ¬ c = nx := by omega
        clear hend
        go_wp2_with fail
        ((with_reducible refine (IndexFunc_Punch 132 #[.pointer (some ⟨wr.heap.size, 0, none⟩)] _ _ _ _ (x.punches.drop nx) _ hsub (by omega) ans).mono ?_))
        rintro e w4 ⟨r, rfl, hr, b4⟩
        have K4 := bel_then K3 b4
        have P4 := P3.next b4
        rcases hr with ⟨rfl, hno⟩ | ⟨j, rfl, hj, hpj, hbj⟩
        · have HN := Lib.hid (show fTo x.punches cs (k + 1) = (out ++ [-1], nx) by rw [fTo_next _ _ hkx, HO.out, fStep_no hno])
          clear hno ans hsub
          go_wp2_with (at_builtin; go_loud (refine wpList_pushNew rfl _ _ _ rfl Tryz.underlying24 info_int rfl (by decide) rfl (own_below own3 b4) rfl (by simp) (by rfl) (by rfl) (by omega) (by decide) P4.lt ?_); intro A9 c9 w9 o9 h9 b9 q9)
          go_roundw
          case rel => exact ⟨k + 1, out ++ [-1], nx, A9, c9, by omega, by go_num, rfl, rfl, by simpa [ints] using o9, hnx, HN, P4.only h9 (own_not own3 (by omega)), K4.trans (b9.mono (by omega))⟩
          case measure => simp [intOf]; omega
        · have HN := Lib.hid (show fTo x.punches cs (k + 1) = (out ++ [((nx + j : Nat) : Int)], nx + j + 1) by rw [fTo_next _ _ hkx, HO.out, fStep_yes hj hpj hbj])
          have hjn : nx + j + 1 ≤ n := by have h := hj; rw [List.length_drop, HL.out] at h; omega
          have hsum : (j : Int) + (nx : Int) = ((nx + j : Nat) : Int) := by omega
          have HSM := Lib.hid hsum
          clear hj hpj hbj ans hsub hsum
          go_wp2_with (at_builtin; go_loud (refine wpList_pushNew rfl _ _ _ rfl Tryz.underlying24 info_int rfl (by decide) rfl (own_below own3 b4) rfl (by simp) (by rfl) (by rfl) (by omega) (by decide) P4.lt ?_); intro A9 c9 w9 o9 h9 b9 q9)
          go_roundw
          case rel => exact ⟨k + 1, out ++ [((nx + j : Nat) : Int)], nx + j + 1, A9, c9, by omega, by go_num, by congr 1; omega, rfl, by rw [← HSM.out]; simpa [ints] using o9, hjn, HN, P4.only h9 (own_not own3 (by omega)), K4.trans (b9.mono (by omega))⟩
          case measure => simp [intOf]; omega
    · obtain rfl : k = m := by omega
      have HE := Lib.hid (show foundL x.punches cs = out by unfold foundL; rw [show cs.length = k from HM.out, HO.out])
      go_wp2_with fail
      go_ret
      rw [HE.out]
      have h9 := own_len own
      subst h9
      exact ⟨A', c', rfl, own_base own (by omega), hb⟩

end Go.Proofs.YtkimlajfhepfgaaGreat

namespace Go.Proofs.YtkimlajfhepfgaaGreat
open Go.RowKit

theorem fTo_len (ps : List Punch) (cs : List Int) : ∀ k, k ≤ cs.length → (fTo ps cs k).1.length = k
  | 0, _ => by simp [fTo]
  | k + 1, hk => by
    have ih := fTo_len ps cs k (by omega)
    rw [fTo_next ps cs (by omega)]
    unfold fStep
    split <;> simp [ih]
theorem foundL_len (ps : List Punch) (cs : List Int) : (foundL ps cs).length = cs.length := fTo_len ps cs _ (Nat.le_refl _)
/-- The codes at the first k places at which nothing is found. -/
def missTo (fs cs : List Int) (k : Nat) : List Int := ((List.range k).filter fun i => decide (fs.getD i 0 < 0)).map fun i => cs.getD i 0
def missL (x : Card) (cs : List Int) : List Int := missTo (foundL x.punches cs) cs cs.length
theorem missTo_next (fs cs : List Int) {k : Nat} (hf : k < fs.length) (hc : k < cs.length) : missTo fs cs (k + 1) = if fs[k] < 0 then missTo fs cs k ++ [cs[k]] else missTo fs cs k := by
  unfold missTo
  rw [List.range_succ, List.filter_append, List.map_append]
  by_cases h : fs[k] < 0 <;> simp [List.getD, hf, hc, h]
set_option maxRecDepth 100000 in
set_option maxHeartbeats 2000000 in
theorem missingCodes_any (A : Option Addr) (n c : Nat) (x : Card) (B : Option Addr) (m e : Nat) (cs : List Int) (w : World) (hx : Sees w 0 2 A n (x.punches.flatMap Punch.enc)) (hn : n ≤ 1048576) (hnc : n ≤ c) (hy : Sees w 0 1 B m (ints cs)) (hm : m ≤ 1048576) :
    Calls Tryz.prog 98 #[.agg #[.int .i64 x.number, .int .i64 x.start, .int .i64 x.finish, .slice A n c], .slice B m e] w (GivesL w (missL x cs)) := by
  have HM := Lib.hid hy.icount
  have HF := Lib.hid (foundL_len x.punches cs)
  have hfm1 : (foundL x.punches cs).length ≤ m := by rw [HF.out, HM.out]; exact Nat.le_refl _
  have hfm2 : m ≤ (foundL x.punches cs).length := by rw [HF.out, HM.out]; exact Nat.le_refl _
  have K0 : Below w.heap.size w ((w.alloc (.cells #[.int .i64 x.number, .int .i64 x.start, .int .i64 x.finish, .slice A n c] 31)).alloc (.cells #[] 3)) := ((Below.refl _ _).alloc (Nat.le_refl _) _).alloc (by simp) _
  have P0 : Blk ((w.alloc (.cells #[.int .i64 x.number, .int .i64 x.start, .int .i64 x.finish, .slice A n c] 31)).alloc (.cells #[] 3)) w.heap.size 31 [.int .i64 x.number, .int .i64 x.start, .int .i64 x.finish, .slice A n c] := (Blk.at_ rfl).alloc _
  have o0 := own_empty_at (w := (w.alloc (.cells #[.int .i64 x.number, .int .i64 x.start, .int .i64 x.finish, .slice A n c] 31))) (g := w.heap.size + 1) 3 1 (by simp)
  have z0 : w.heap.size + 2 ≤ ((w.alloc (.cells #[.int .i64 x.number, .int .i64 x.start, .int .i64 x.finish, .slice A n c] 31)).alloc (.cells #[] 3)).heap.size := by simp
  go_enter Tryz.func98, Tryz.ntmps98
  go_wp2_with fail
  generalize ((w.alloc (.cells #[.int .i64 x.number, .int .i64 x.start, .int .i64 x.finish, .slice A n c] 31)).alloc (.cells #[] 3)) = w0 at *
  refine (foundAt_any A n c x B m e cs _ (hx.below K0 (Nat.le_refl _)) hn hnc (hy.below K0 (Nat.le_refl _)) hm).mono ?_
  have HD := Lib.hid (show missL x cs = missTo (foundL x.punches cs) cs cs.length from rfl)
  generalize foundL x.punches cs = fs at *
  rintro e1 w1 ⟨F, cf, rfl, of_, b1⟩
  have K1 := bel_then K0 b1
  have o1 := own_below o0 b1
  have hF : ∀ b, OwnB F b → w.heap.size + 2 ≤ b := fun b hb => by have := (own_top of_ hb).1; omega
  have hz1 := b1.size
  clear P0 o0 K0
  go_wp2_with fail
  go_loopw [5, 13] (fun v i wr => ∃ (k : Nat) (out : List Int) (A' : Option Addr) (c' : Nat), k ≤ fs.length ∧ i = .int .i64 (k : Int) ∧ v = .slice A' out.length c' ∧ wr.ownsRow (w.heap.size + 1) 3 1 (.slice A' out.length c') out.length (ints out) ∧ out.length ≤ k ∧ Hid (missTo fs cs k = out) ∧ wr.ownsRow w0.heap.size 3 1 (.slice F fs.length cf) fs.length (ints fs) ∧ (∀ b, OwnB F b → OwnB A' b → False) ∧ w0.heap.size ≤ wr.heap.size ∧ Below w.heap.size w wr) (fun _ i _ => fs.length - (intOf i).toNat)
  case atStart => exact ⟨0, [], _, 0, Nat.zero_le _, rfl, rfl, o1, Nat.le_refl _, Lib.hid rfl, of_, (fun b h1 h2 => by have h3 := hF b h1; have h4 : w.heap.size + 1 = b := (by simpa [OwnB, Value.ownBlock] using h2); omega), hz1, K1⟩
  case round =>
    obtain ⟨k, out, A', c', hk, rfl, rfl, own, hlo, HO, ofr, hap, hzr, hb⟩ := hrel
    by_cases hlt : k < fs.length
    · have hkc : k < cs.length := by rw [HM.out]; omega
      obtain ⟨bk, offk, rfl, hkx, x0⟩ := ((Sees.of_own ofr)).int hlt
      obtain ⟨by_, offy, rfl, hky, y0⟩ := (hy.next hb).int (show k < m by omega)
      have hN := missTo_next fs cs hlt hkc
      rw [HO.out] at hN
      have hblt := World.block_lt_of_cell? wr _ x0
      have hblty := World.block_lt_of_cell? wr _ y0
      have hkm : (k : Int) < (m : Int) := by omega
      have hkf : (k : Int) < (fs.length : Int) := by omega
      by_cases h0 : fs[k] < 0
      · have HN := Lib.hid (hN.trans (if_pos h0))
        clear hN
        go_wp2_with (at_builtin; go_loud (refine wpList_pushNew rfl _ _ _ rfl Tryz.underlying24 info_int rfl (by decide) rfl own rfl (by simp) (by rfl) (by rfl) (by omega) (by decide) (by omega) ?_); intro A9 c9 w9 o9 h9 b9 q9)
        go_roundw
        case rel => exact ⟨k + 1, out ++ [cs[k]], A9, c9, by omega, by go_num, by simp, by simpa [ints] using o9, by simp; omega, HN, own_only ofr h9 (fun b h1 h2 => hap b h1 h2), (fun b h1 h2 => (q9 b h2).elim (hap b h1) (fun h5 => by have := (own_top ofr h1).2; omega)), by have := h9.size; omega, hb.trans (b9.mono (by omega))⟩
        case measure => simp [intOf]; omega
      · have HN := Lib.hid (hN.trans (if_neg h0))
        clear hN
        go_wp2_with fail
        go_roundw
        case rel => exact ⟨k + 1, out, A', c', by omega, by go_num, rfl, own, by omega, HN, ofr, hap, hzr, hb⟩
        case measure => simp [intOf]; omega
    · have HE := Lib.hid (show missL x cs = out by rw [HD.out, ← HO.out, show cs.length = k by rw [HM.out]; omega])
      go_wp2_with fail
      go_ret
      rw [HE.out]
      exact ⟨A', c', rfl, own_base own (by omega), hb⟩

end Go.Proofs.YtkimlajfhepfgaaGreat

namespace Go.Proofs.YtkimlajfhepfgaaGreat
open Go.RowKit

/-- A row is put for a card. -/
def putsB (d : DeskV) (c : Card) : Bool := hasI d.known c.number && !doneB d.done c.number
def rowOf (d : DeskV) (c : Card) : DeskRow := ⟨c.number, ((missL c d.codes).length : Int), c.finish - c.start⟩
/-- One check. -/
def checkD (d : DeskV) : DeskV :=
  match d.queue with
  | [] => d
  | c :: q => if putsB d c then { d with queue := q, done := d.done ++ [rowOf d c] } else { d with queue := q, trouble := d.trouble ++ [c] }
def checkN : Nat → DeskV → DeskV
  | 0, d => d
  | k + 1, d => checkD (checkN k d)
theorem checkD_queue (d : DeskV) : (checkD d).queue = d.queue.tail := by
  unfold checkD
  cases h : d.queue with
  | nil => simp [h]
  | cons c q => simp only []; split <;> rfl
theorem checkD_same (d : DeskV) : (checkD d).codes = d.codes ∧ (checkD d).known = d.known := by
  unfold checkD
  cases d.queue with
  | nil => exact ⟨rfl, rfl⟩
  | cons c q => simp only []; split <;> exact ⟨rfl, rfl⟩
theorem checkD_total (d : DeskV) : (checkD d).queue.length + (checkD d).done.length + (checkD d).trouble.length = d.queue.length + d.done.length + d.trouble.length := by
  unfold checkD
  cases h : d.queue with
  | nil => simp [h]
  | cons c q => simp only []; split <;> simp <;> omega
theorem checkN_queue (d : DeskV) : ∀ k, (checkN k d).queue = d.queue.drop k
  | 0 => rfl
  | k + 1 => by rw [checkN, checkD_queue, checkN_queue d k, List.tail_drop]
theorem checkN_same (d : DeskV) : ∀ k, (checkN k d).codes = d.codes ∧ (checkN k d).known = d.known
  | 0 => ⟨rfl, rfl⟩
  | k + 1 => by
    obtain ⟨h1, h2⟩ := checkN_same d k
    obtain ⟨h3, h4⟩ := checkD_same (checkN k d)
    exact ⟨h3.trans h1, h4.trans h2⟩
/-- All checks: the desk, and how many rows were put. -/
def checkAllM (d : DeskV) : Option DeskV := if deskB d then some (checkN d.queue.length d) else none
def checkAllC (d : DeskV) : Int := if deskB d then ((checkN d.queue.length d).done.length : Int) - d.done.length else 0

section
variable {α : Type} {sh : Sh α} {w : World} {S : Nat → Prop} {t ti : TypeId} {g off k : Nat} {xs : List α}
theorem BlkO.drop {cs : List Value} (h : BlkO w g off t cs) (s : Nat) (hs : s ≤ cs.length) : BlkO w g (off + s) t (cs.drop s) := by
  obtain ⟨pre, rfl, h⟩ := h
  exact ⟨pre ++ cs.take s, by rw [List.length_append, List.length_take]; omega, by rw [List.append_assoc, List.take_append_drop]; exact h⟩
/-- The first element's slice, and the rest behind it. -/
theorem MineO.tail (h : MineO sh w S t ti (some ⟨g, off, none⟩) (k + 1) xs) : MineO sh w S t ti (some ⟨g, off + sh.s, none⟩) k xs.tail := by
  obtain ⟨rs, rfl, hin, hl, h4⟩ := h
  rcases h4 with h4 | ⟨g', off', cs, e, hS, hB, hle, htk, hag⟩
  · omega
  · simp only [Option.some.injEq, Addr.mk.injEq, and_true] at e
    obtain ⟨rfl, rfl⟩ := e
    cases rs with
    | nil => simp at hl
    | cons r rs =>
      simp only [List.length_cons, Nat.add_right_cancel_iff] at hl
      have hs : sh.s ≤ cs.length := by rw [Nat.succ_mul] at hle; omega
      refine ⟨rs, rfl, ⟨fun r' hr' => hin.each r' (List.mem_cons_of_mem _ hr'), (List.pairwise_cons.1 hin.pair).2⟩, hl, .inr ⟨g, off + sh.s, cs.drop sh.s, rfl, hS, hB.drop sh.s hs, ?_, ?_, fun r' hr' => hag r' (List.mem_cons_of_mem _ hr')⟩⟩
      · rw [List.length_drop]
        rw [Nat.succ_mul] at hle
        omega
      · have h5 := congrArg (List.drop sh.s) htk
        rw [List.flatMap_cons, List.drop_left' (sh.len r), List.drop_take, show (k + 1) * sh.s - sh.s = k * sh.s by rw [Nat.succ_mul]; omega] at h5
        exact h5
end
end Go.Proofs.YtkimlajfhepfgaaGreat

namespace Go.Proofs.YtkimlajfhepfgaaGreat
open Go.RowKit

def okCard (c : Card) : Prop := c.cnt ≤ 1000 ∧ (0 ≤ c.start ∧ c.start ≤ 36000) ∧ -1 ≤ c.finish ∧ c.finish ≤ 36000
structure Small (t : Nat) (d : DeskV) : Prop where
  codes : d.codes.length ≤ 1000
  known : d.known.length ≤ t
  total : d.queue.length + d.done.length + d.trouble.length ≤ t
  qc : ∀ c ∈ d.queue, okCard c
  tc : ∀ c ∈ d.trouble, okCard c
theorem finB_ok {c : Card} (h : finB c = true) : okCard c := by
  have h1 := finB_cnt h
  unfold finB cardB at h
  simp only [Bool.and_eq_true] at h
  obtain ⟨h2, h3, h4, h5⟩ := headB_true h.1.1
  have h3 := inB_true h3
  refine ⟨by unfold Card.cnt; omega, h3, ?_⟩
  rcases h4 with h4 | h4
  · omega
  · have := inB_true h4; omega
theorem deskB_small {d : DeskV} (h : deskB d = true) : Small 1000 d := by
  have h1 := deskB_top h
  unfold deskB topB at h
  simp only [Bool.and_eq_true, List.all_eq_true] at h
  have h0 : d.codes.length ≤ 12 := by
    have := h.1.1.1.1.1.1
    unfold codesB at this
    simp only [Bool.and_eq_true, decide_eq_true_eq] at this
    exact this.1
  exact ⟨by omega, by omega, by omega, fun c hc => finB_ok (h.1.1.1.2 c hc), fun c hc => finB_ok (h.1.1.2 c hc)⟩
theorem Small.check {t : Nat} {d : DeskV} (h : Small t d) : Small t (checkD d) := by
  obtain ⟨h1, h2, h3, h4, h5⟩ := h
  obtain ⟨s1, s2⟩ := checkD_same d
  refine ⟨by rw [s1]; exact h1, by rw [s2]; exact h2, by rw [checkD_total]; exact h3, fun c hc => ?_, fun c hc => ?_⟩
  · rw [checkD_queue] at hc
    exact h4 c (List.mem_of_mem_tail hc)
  · unfold checkD at hc
    cases hq : d.queue with
    | nil => rw [hq] at hc; exact h5 c hc
    | cons x q =>
      rw [hq] at hc
      simp only [] at hc
      split at hc
      · exact h5 c hc
      · rcases List.mem_append.1 hc with hc | hc
        · exact h5 c hc
        · obtain rfl := List.mem_singleton.1 hc
          exact h4 _ (by rw [hq]; exact List.mem_cons_self)
theorem Small.checks {t : Nat} {d : DeskV} (h : Small t d) : ∀ k, Small t (checkN k d)
  | 0 => h
  | k + 1 => (h.checks k).check
theorem Small.lens {t : Nat} {w : World} {lo : Nat} {h : DeskH} {d : DeskV} (_ : Small t d) (hs : SeesDesk w lo h d) : h.n0 = d.codes.length ∧ h.n1 = d.known.length ∧ h.n2 = d.queue.length ∧ h.n3 = d.done.length ∧ h.n4 = d.trouble.length :=
  ⟨hs.f0.icount.symm, hs.f1.icount.symm, hs.f2.count.symm, (hs.f3.count (by decide) (fun _ => rfl)).symm, hs.f4.count.symm⟩
theorem Small.fit {t u : Nat} {w : World} {lo : Nat} {h : DeskH} {d : DeskV} (hd : Small t d) (hs : SeesDesk w lo h d) (ht : t ≤ u) (hu : 1000 ≤ u) : DeskFit u h d := by
  obtain ⟨l0, l1, l2, l3, l4⟩ := hd.lens hs
  have h1 := hd.codes
  have h2 := hd.known
  have h3 := hd.total
  exact ⟨by omega, by omega, by omega, fun c hc => Nat.le_trans (hd.qc c hc).1 hu, by omega, by omega, fun c hc => Nat.le_trans (hd.tc c hc).1 hu⟩
theorem putsB_done {d : DeskV} {c : Card} {q : List Card} (hq : d.queue = c :: q) : (checkD d).done.length = d.done.length + (if putsB d c then 1 else 0) := by
  unfold checkD
  rw [hq]
  simp only []
  split <;> simp

end Go.Proofs.YtkimlajfhepfgaaGreat

namespace Go.Proofs.YtkimlajfhepfgaaGreat
open Go.RowKit

section
variable {α : Type} {sh : Sh α} {w : World} {S : Nat → Prop} {t ti : TypeId} {A : Option Addr} {k : Nat} {xs : List α}
/-- The first element: its header, its slice, and the rest, which owns nothing of that slice's block. -/
theorem MineO.head (h : MineO sh w S t ti A (k + 1) xs) : ∃ (r : Hd α) (ys : List α) (g off : Nat), xs = r.x :: ys ∧ A = some ⟨g, off, none⟩ ∧ S g ∧
    (∀ (j : Nat) (u : Value), (sh.enc r)[j]? = some u → w.cell? ⟨g, off + j, none⟩ = some u) ∧ Mine w S ti sh.is r.A r.n r.c (sh.inner r.x) ∧ ¬ OwnB r.A g ∧
    MineO sh w (fun b => S b ∧ ¬ OwnB r.A b) t ti (some ⟨g, off + sh.s, none⟩) k ys := by
  have ht := fun g off (e : A = some ⟨g, off, none⟩) => MineO.tail (g := g) (off := off) (e ▸ h)
  obtain ⟨rs, rfl, hin, hl, h4⟩ := h
  rcases h4 with h4 | ⟨g, off, cs, rfl, hS, hB, hle, htk, hag⟩
  · omega
  · cases rs with
    | nil => simp at hl
    | cons r rs =>
      obtain ⟨rs', hrs', hin', hl', h4'⟩ := ht g off rfl
      refine ⟨r, rs.map Hd.x, g, off, rfl, rfl, hS, fun j u hu => ?_, hin.each r (by simp), hag r (by simp), ?_⟩
      · rw [hB.cellp j _ rfl]
        have hj : j < sh.s := by
          have := (List.getElem?_eq_some_iff.1 hu).1
          rwa [sh.len] at this
        have h5 := congrArg (fun l => l[j]?) htk
        rw [List.flatMap_cons, List.getElem?_append_left (by rw [sh.len]; exact hj), hu, List.getElem?_take, if_pos (by rw [Nat.succ_mul]; omega)] at h5
        exact h5
      · have hp := List.pairwise_cons.1 hin.pair
        simp only [List.length_cons, Nat.add_right_cancel_iff] at hl
        have hs : sh.s ≤ cs.length := by rw [Nat.succ_mul] at hle; omega
        refine ⟨rs, rfl, ⟨fun r' hr' => ?_, hp.2⟩, hl, .inr ⟨g, off + sh.s, cs.drop sh.s, rfl, ⟨hS, hag r (by simp)⟩, hB.drop sh.s hs, ?_, ?_, fun r' hr' => hag r' (by simp [hr'])⟩⟩
        · have hm := hin.each r' (List.mem_cons_of_mem _ hr')
          exact ⟨hm.own, fun b hb => ⟨hm.top b hb, fun hb2 => hp.1 r' hr' b hb2 hb⟩⟩
        · rw [List.length_drop]
          rw [Nat.succ_mul] at hle
          omega
        · have h5 := congrArg (List.drop sh.s) htk
          simp only [List.flatMap_cons] at h5
          rw [List.drop_left' (sh.len r), List.drop_take, show (k + 1) * sh.s - sh.s = k * sh.s by rw [Nat.succ_mul]; omega] at h5
          exact h5
end
/-- The first card of a desk's queue, and the desk without it: its punches are owned apart. -/
theorem MineCW.first {w : World} {S : Nat → Prop} {col : Nat → Nat} {h : DeskH} {d : DeskV} {k : Nat} (m : MineCW w S col h d) (hn : h.n2 = k + 1) :
    ∃ (r : Hd Card) (q : List Card) (g off : Nat), d.queue = r.x :: q ∧ h.A2 = some ⟨g, off, none⟩ ∧
      (w.cell? ⟨g, off, none⟩ = some (.int .i64 r.x.number) ∧ w.cell? ⟨g, off + 1, none⟩ = some (.int .i64 r.x.start) ∧ w.cell? ⟨g, off + 2, none⟩ = some (.int .i64 r.x.finish) ∧ w.cell? ⟨g, off + 3, none⟩ = some (.slice r.A r.n r.c)) ∧
      Mine w (Hue S col 2) 109 2 r.A r.n r.c (r.x.punches.flatMap Punch.enc) ∧
      MineO cardSh w (fun b => Hue S col 2 b ∧ ¬ OwnB r.A b) 31 109 (some ⟨g, off + 4, none⟩) k q := by
  obtain ⟨r, q, g, off, h1, h2, -, h4, h5, -, h7⟩ := MineO.head (hn ▸ m.f2)
  exact ⟨r, q, g, off, h1, h2, ⟨h4 0 _ rfl, h4 1 _ rfl, h4 2 _ rfl, h4 3 _ rfl⟩, h5, h7⟩
/-- The first card is no longer in the queue (its punches belong to nobody): what a row is put for. -/
theorem MineCW.done {w w' : World} {S : Nat → Prop} {col : Nat → Nat} {h : DeskH} {d : DeskV} {q : List Card} {rA A3 : Option Addr} {A2 : Option Addr} {n3 c3 n2 c2 : Nat} {ds : List DeskRow} (m : MineCW w S col h d) (hS : ∀ b, S b → b < w.heap.size)
    (m2 : MineO cardSh w (fun b => Hue S col 2 b ∧ ¬ OwnB rA b) 31 109 A2 n2 q)
    (ho : Only (Hue S col 3) w w') (m3 : Mine w' (fun b => Hue S col 3 b ∨ (w.heap.size ≤ b ∧ b < w'.heap.size)) 41 3 A3 n3 c3 (ds.flatMap DeskRow.enc)) :
    MineW w' (fun b => S b ∨ (w.heap.size ≤ b ∧ b < w'.heap.size)) ⟨h.A0, h.n0, h.c0, h.A1, h.n1, h.c1, A2, n2, c2, A3, n3, c3, h.A4, h.n4, h.c4⟩ { d with queue := q, done := ds } := by
  have h0 := m.f0.only ho (Hue.apart (by decide))
  have h1 := m.f1.only ho (Hue.apart (by decide))
  have h2 := (m2.wide (U := Hue S col 2) fun b hb => hb.1).only ho (Hue.apart (by decide))
  have h4 := m.f4.only ho (Hue.apart (by decide))
  have hlt : ∀ i b, Hue S col i b → b < w.heap.size := fun i b hb => hS b hb.1
  exact MineW.of5 h0 h1 h2 m3 h4 (fun b hb => .inl hb.1) (fun b hb => .inl hb.1) (fun b hb => .inl hb.1) (fun b hb => hb.imp (·.1) id) (fun b hb => .inl hb.1)
    (Hue.apart (by decide)) (Hue.apart (by decide)) (fun b h5 h6 => h6.elim (Hue.apart (by decide) b h5) fun h7 => by have := hlt _ b h5; omega) (Hue.apart (by decide)) (Hue.apart (by decide)) (fun b h5 h6 => h6.elim (Hue.apart (by decide) b h5) fun h7 => by have := hlt _ b h5; omega) (Hue.apart (by decide))
    (fun b h5 h6 => h6.elim (Hue.apart (by decide) b h5) fun h7 => by have := hlt _ b h5; omega) (Hue.apart (by decide)) (fun b h5 h6 => h5.elim (fun h7 => Hue.apart (by decide) b h7 h6) fun h7 => by have := hlt _ b h6; omega)
/-- The first card has moved to trouble, with its punches. -/
theorem MineCW.trouble {w w' : World} {S : Nat → Prop} {col : Nat → Nat} {h : DeskH} {d : DeskV} {q : List Card} {r : Hd Card} {A2 A4 : Option Addr} {n4 c4 n2 c2 : Nat} {rs : List (Hd Card)} (m : MineCW w S col h d) (hS : ∀ b, S b → b < w.heap.size)
    (hrs : rs.map Hd.x = d.trouble) (hi : Inners cardSh w (Hue S col 4) 109 rs) (hap : ∀ y ∈ rs, ∀ b, OwnB y.A b → ¬ OwnB h.A4 b)
    (mr : Mine w (Hue S col 2) 109 2 r.A r.n r.c (r.x.punches.flatMap Punch.enc))
    (m2 : MineO cardSh w (fun b => Hue S col 2 b ∧ ¬ OwnB r.A b) 31 109 A2 n2 q)
    (hA4 : ∀ b, OwnB h.A4 b → Hue S col 4 b) (ho : Only (OwnB h.A4) w w') (hat : ∀ b, OwnB A4 b → OwnB h.A4 b ∨ (w.heap.size ≤ b ∧ b < w'.heap.size))
    (m4 : w'.ownsRow 0 31 4 (.slice A4 n4 c4) n4 ((rs ++ [r]).flatMap cardSh.enc)) :
    MineW w' (fun b => S b ∨ (w.heap.size ≤ b ∧ b < w'.heap.size)) ⟨h.A0, h.n0, h.c0, h.A1, h.n1, h.c1, A2, n2, c2, h.A3, h.n3, h.c3, A4, n4, c4⟩ { d with queue := q, trouble := d.trouble ++ [r.x] } := by
  have hOh : ∀ {i : Nat}, i ≠ 4 → ∀ b, Hue S col i b → OwnB h.A4 b → False := fun hi b h5 h6 => Hue.apart hi b h5 (hA4 b h6)
  have h0 := m.f0.only ho (hOh (by decide))
  have h1 := m.f1.only ho (hOh (by decide))
  have h2 := m2.only ho (fun b h5 h6 => hOh (by decide) b h5.1 h6)
  have h3 := m.f3.only ho (hOh (by decide))
  have hr := (mr.only ho (hOh (by decide))).exact_
  have hlt : ∀ i b, Hue S col i b → b < w.heap.size := fun i b hb => hS b hb.1
  have hin := hi.onlyA ho (fun y hy b h5 h6 => hap y hy b h5 h6)
  have hin2 := hin.snoc (x := r.x) (A := r.A) (n := r.n) (c := r.c) hr (fun b h5 h6 => Hue.apart (by decide) b h5 (mr.top b h6))
  have hT4 : MineN cardSh w' (fun b => (Hue S col 4 b ∨ OwnB r.A b) ∨ (w.heap.size ≤ b ∧ b < w'.heap.size)) 31 109 A4 n4 c4 (d.trouble ++ [r.x]) := by
    refine ⟨rs ++ [r], by rw [List.map_append, hrs]; rfl, ⟨⟨m4, fun b hb => (hat b hb).imp (fun h5 => .inl (hA4 b h5)) id⟩, hin2.wide fun b hb => .inl hb, fun y hy b h5 h6 => ?_⟩⟩
    rcases List.mem_append.1 hy with hy | hy
    · rcases hat b h6 with h7 | h7
      · exact hap y hy b h5 h7
      · have := hlt _ b ((hi.each y hy).top b h5); omega
    · obtain rfl := List.mem_singleton.1 hy
      rcases hat b h6 with h7 | h7
      · exact Hue.apart (by decide) b (mr.top b h5) (hA4 b h7)
      · have := hlt _ b (mr.top b h5); omega
  have h4x : ∀ {i : Nat}, i ≠ 4 → i ≠ 2 → ∀ b, Hue S col i b → ((Hue S col 4 b ∨ OwnB r.A b) ∨ (w.heap.size ≤ b ∧ b < w'.heap.size)) → False := fun hi4 hi2 b h5 h6 => by
    rcases h6 with (h6 | h6) | h6
    · exact Hue.apart hi4 b h5 h6
    · exact Hue.apart hi2 b h5 (mr.top b h6)
    · have := hlt _ b h5; omega
  exact MineW.of5 h0 h1 h2 h3 hT4 (fun b hb => .inl hb.1) (fun b hb => .inl hb.1) (fun b hb => .inl hb.1.1) (fun b hb => .inl hb.1) (fun b hb => hb.imp (fun h5 => h5.elim (·.1) fun h6 => (mr.top b h6).1) id)
    (Hue.apart (by decide)) (fun b h5 h6 => Hue.apart (by decide) b h5 h6.1) (Hue.apart (by decide)) (h4x (by decide) (by decide)) (fun b h5 h6 => Hue.apart (by decide) b h5 h6.1) (Hue.apart (by decide)) (h4x (by decide) (by decide))
    (fun b h5 h6 => Hue.apart (by decide) b h5.1 h6) (fun b h5 h6 => by
      rcases h6 with (h6 | h6) | h6
      · exact Hue.apart (by decide) b h5.1 h6
      · exact h5.2 h6
      · have := hlt _ b h5.1; omega) (h4x (by decide) (by decide))

end Go.Proofs.YtkimlajfhepfgaaGreat
