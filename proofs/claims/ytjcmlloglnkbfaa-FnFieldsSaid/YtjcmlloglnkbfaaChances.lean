/- ChancesOf, as the program and as the reference have it. -/
import Derived.Test.YtjcmlloglnkbfaaFirst
import Derived.Test.YtjcmlloglnkbfaaAfter
namespace Go.Proofs.Ytjcmlloglnkbfaa
open Go.RowKit

def chTo (m : MapV) (F : List Int) (c : Int) (k : Nat) : Int := 1 + (((F.take k).filter fun y => decide (gapI m.width c y = 1)).length : Nat)
def secOf (m : MapV) (F : List Int) (c : Int) : Sector := ⟨c, chTo m F c F.length⟩
def chSTo (F B : List Int) (k : Nat) : Int := 1 + (((B.take k).filter fun y => hasI F y).length : Nat)
def chancesM (m : MapV) (x : Missing) (pace time : Int) : Option (List Sector) := (fieldM m x pace time).map fun F => F.map (secOf m F)
theorem chTo_next {m : MapV} {F : List Int} {c : Int} {k : Nat} (hk : k < F.length) : chTo m F c (k + 1) = if gapI m.width c F[k] = 1 then chTo m F c k + 1 else chTo m F c k := by
  unfold chTo
  rw [List.take_succ_eq_append_getElem hk, List.filter_append]
  by_cases h : gapI m.width c F[k] = 1
  · simp [h]; omega
  · simp [h]
theorem chTo_bd (m : MapV) (F : List Int) (c : Int) (k : Nat) : 1 ≤ chTo m F c k ∧ chTo m F c k ≤ 1 + k := by
  unfold chTo
  have h1 := List.length_filter_le (fun y => decide (gapI m.width c y = 1)) (F.take k)
  have h2 := List.length_take_le k F
  omega
theorem chSTo_next {F B : List Int} {k : Nat} (hk : k < B.length) : chSTo F B (k + 1) = if hasI F B[k] = true then chSTo F B k + 1 else chSTo F B k := by
  unfold chSTo
  rw [List.take_succ_eq_append_getElem hk, List.filter_append]
  by_cases h : hasI F B[k] = true
  · simp [h]; omega
  · simp [h]
theorem chSTo_bd (F B : List Int) (k : Nat) : 1 ≤ chSTo F B k ∧ chSTo F B k ≤ 1 + k := by
  unfold chSTo
  have h1 := List.length_filter_le (fun y => hasI F y) (B.take k)
  have h2 := List.length_take_le k B
  omega
theorem beside_nodup (w h c : Int) (hw : 1 ≤ w) : (besideL w h c).Nodup := by
  have h1 : ∀ (p : Prop) [Decidable p] (y : Int), (if p then [y] else []).Nodup := fun p _ y => by split <;> simp
  unfold besideL
  simp only [List.nodup_append, h1, true_and, List.mem_append, mem_ite]
  refine ⟨⟨?_, ?_⟩, ?_⟩
  · intro a ⟨_, ha⟩ b ⟨_, hb⟩; have hm := Int.emod_lt_of_pos c (show 0 < w by omega); by_cases e : w = 1
    · subst e; omega
    · omega
  · rintro a (⟨_, ha⟩ | ⟨_, ha⟩) b ⟨_, hb⟩ <;> omega
  · rintro a ((⟨_, ha⟩ | ⟨_, ha⟩) | ⟨hc, ha⟩) b ⟨_, hb⟩
    · omega
    · omega
    · have hm := Int.emod_nonneg c (show w ≠ 0 by omega)
      omega
theorem same_len {p q : Int → Bool} : ∀ {l r : List Int}, l.Nodup → r.Nodup → (∀ x, x ∈ l ∧ p x = true ↔ x ∈ r ∧ q x = true) → (l.filter p).length = (r.filter q).length := by
  intro l r hl hr h
  have h1 : (l.filter p).Nodup := hl.sublist List.filter_sublist
  have h2 : (r.filter q).Nodup := hr.sublist List.filter_sublist
  refine ((List.perm_ext_iff_of_nodup h1 h2).2 fun x => ?_).length_eq
  rw [List.mem_filter, List.mem_filter]
  exact h x
theorem chances_eq {m : MapV} {a c : Int} {t : Nat} (hM : isMapB m = true) (hc : 0 ≤ c ∧ c < m.cost.length) :
    chSTo (fieldT m a t) (besideL m.width m.height c) (besideL m.width m.height c).length = chTo m (fieldT m a t) c (fieldT m a t).length := by
  obtain ⟨k1, k2, k3, k4⟩ := isMapB_size hM
  have hw : 1 ≤ m.width ∧ m.width ≤ 6 := by
    simp only [isMapB, Bool.and_eq_true, decide_eq_true_eq] at hM
    exact inB_true hM.1.1.1.1
  unfold chSTo chTo
  rw [List.take_length, List.take_length]
  congr 2
  refine same_len (beside_nodup _ _ _ hw.1) ((fieldL_rising _ _ _ _).imp fun h => by omega) fun x => ?_
  rw [hasI_mem, decide_eq_true_eq]
  constructor
  · rintro ⟨h1, h2⟩
    have h3 := (mem_fieldL.1 h2).1
    exact ⟨h2, (beside_gap m.width m.height c x hw (by omega) (by omega)).2 h1⟩
  · rintro ⟨h1, h2⟩
    have h3 := (mem_fieldL.1 h1).1
    exact ⟨(beside_gap m.width m.height c x hw (by omega) (by omega)).1 h2, h1⟩
theorem map_take_next {α β : Type} {f : α → β} {l : List α} {k : Nat} {out : List β} (hk : k < l.length) (h : (l.take k).map f = out) : (l.take (k + 1)).map f = out ++ [f l[k]] := by
  rw [List.take_succ_eq_append_getElem hk, List.map_append, h]; rfl

set_option maxRecDepth 100000 in
set_option maxHeartbeats 4000000 in
theorem ChancesOf_any (A1 A2 : Option Addr) (n1 n2 c1 c2 : Nat) (m : MapV) (x : Missing) (pace time : Int) (w : World) (hm : SeesMap w A1 n1 A2 n2 m) (hn : n1 ≤ 1048576 ∧ n2 ≤ 1048576) :
    Calls Try.prog 46 #[.agg #[.int .i64 m.width, .int .i64 m.height, .slice A1 n1 c1, .slice A2 n2 c2], .agg #[.int .i64 x.runner, .int .i64 x.start, .int .i64 x.seen, .int .i64 x.place], .int .i64 pace, .int .i64 time] w (GivesSec w (chancesM m x pace time)) := by
  have K0 : Below w.heap.size w ((w.alloc (.cells #[.int .i64 m.width, .int .i64 m.height, .slice A1 n1 c1, .slice A2 n2 c2] 29)).alloc (.cells #[.int .i64 x.runner, .int .i64 x.start, .int .i64 x.seen, .int .i64 x.place] 31)) := ((Below.refl _ _).alloc (Nat.le_refl _) _).alloc (by simp) _
  have M0 : Blk ((w.alloc (.cells #[.int .i64 m.width, .int .i64 m.height, .slice A1 n1 c1, .slice A2 n2 c2] 29)).alloc (.cells #[.int .i64 x.runner, .int .i64 x.start, .int .i64 x.seen, .int .i64 x.place] 31)) w.heap.size 29 [.int .i64 m.width, .int .i64 m.height, .slice A1 n1 c1, .slice A2 n2 c2] := (Blk.at_ rfl).alloc _
  have X0 : Blk ((w.alloc (.cells #[.int .i64 m.width, .int .i64 m.height, .slice A1 n1 c1, .slice A2 n2 c2] 29)).alloc (.cells #[.int .i64 x.runner, .int .i64 x.start, .int .i64 x.seen, .int .i64 x.place] 31)) (w.heap.size + 1) 31 [.int .i64 x.runner, .int .i64 x.start, .int .i64 x.seen, .int .i64 x.place] := Blk.at_ (by simp)
  have HL2 := Lib.hid hm.f2.icount
  cases g1 : fieldM m x pace time with
  | none =>
    have HR := Lib.hid (show chancesM m x pace time = none by simp [chancesM, g1])
    have HG := Lib.hid g1
    clear g1
    go_enter Try.func46, Try.ntmps46
    go_wp2_with fail
    refine (FieldOf_any _ _ _ _ _ _ m x pace time _ (hm.next K0) hn).mono ?_
    rw [HG.out]
    rintro e w1 ⟨A3, c3, rfl, o3, b1⟩
    go_wp2_with fail
    go_ret2
    rw [HR.out]
    exact givesSec_nil (bel_then K0 b1)
  | some F =>
    have HR := Lib.hid (show chancesM m x pace time = some (F.map (secOf m F)) by simp [chancesM, g1])
    have hF : missingB m x = true ∧ F = fieldL m.cost.length (nextL m) x.place ((time - x.seen) / pace).toNat := by
      unfold fieldM at g1
      split at g1
      · rename_i h
        simp only [Bool.and_eq_true] at h
        injection g1 with g1
        exact ⟨h.1.1, g1.symm⟩
      · cases g1
    obtain ⟨s1, s2, s3, s4, s5, s6, s7⟩ := missing_facts hF.1
    have HFL := Lib.hid (show ∀ y ∈ F, 0 ≤ y ∧ y ≤ 1000000 from fun y hy => by
      rw [hF.2] at hy
      have := (mem_fieldL.1 hy).1
      omega)
    have hF36 : F.length ≤ 36 := by rw [hF.2]; exact Nat.le_trans (fieldL_len _ _ _ _) s4
    have HG := Lib.hid g1
    have HS := Lib.hid s1
    clear g1 hF s1 s2 s3 s4 s5 s6 s7
    go_enter Try.func46, Try.ntmps46
    go_wp2_with fail
    refine (FieldOf_any _ _ _ _ _ _ m x pace time _ (hm.next K0) hn).mono ?_
    rw [HG.out]
    rintro e w1 ⟨A3, c3, rfl, o3, b1⟩
    simp only [Option.getD_some] at o3
    simp only [Option.getD_some, Option.isSome_some]
    have K1 := bel_then K0 b1
    have M1 := M0.next b1
    have X1 := X0.next b1
    have lt1 := X1.lt
    have o3' := own_base o3 (Nat.zero_le _)
    have hFB : ∀ b, OwnB A3 b → b < w1.heap.size := fun b hb => (own_top o3 hb).2
    have HFB := Lib.hid hFB
    clear b1 o3 M0 X0 K0 X1 hFB
    have K2 : Below w.heap.size w (w1.alloc (.cells #[] 77)) := K1.alloc K1.size _
    have M2 := M1.alloc (.cells #[] 77)
    have o2 := own_alloc o3' (.cells #[] 77)
    have O2 : (w1.alloc (.cells #[] 77)).ownsRow w1.heap.size 77 2 (.slice (some ⟨w1.heap.size, 0, none⟩) 0 0) 0 (([] : List Sector).flatMap Sector.enc) := own_empty_at 77 2 rfl
    have z2 : w1.heap.size ≤ (w1.alloc (.cells #[] 77)).heap.size := by simp
    have lt2 : w.heap.size + 1 < w1.heap.size := lt1
    clear K1 M1 o3' lt1
    go_wp2_with fail
    obtain ⟨bs, hbs⟩ : ∃ bs, w1.heap.size = bs := ⟨_, rfl⟩
    obtain ⟨w2, hw2⟩ : ∃ w2, w1.alloc (.cells #[] 77) = w2 := ⟨_, rfl⟩
    rw [hw2] at K2 M2 o2 O2 z2 ⊢
    rw [hbs] at O2 z2 HFB lt2 ⊢
    clear hbs hw2
    go_loopw [12, 31] (fun v i wr => ∃ (k : Nat) (out : List Sector) (A' : Option Addr) (c' : Nat), k ≤ F.length ∧ i = .int .i64 (k : Int) ∧ v = .slice A' out.length c' ∧ wr.ownsRow bs 77 2 (.slice A' out.length c') out.length (out.flatMap Sector.enc) ∧ out.length ≤ k ∧ Hid ((F.take k).map (secOf m F) = out) ∧ wr.ownsRow 0 3 1 (.slice A3 F.length c3) F.length (ints F) ∧ Blk wr w.heap.size 29 [.int .i64 m.width, .int .i64 m.height, .slice A1 n1 c1, .slice A2 n2 c2] ∧ bs ≤ wr.heap.size ∧ Below w.heap.size w wr) (fun _ i _ => F.length - (intOf i).toNat)
    case atStart => exact ⟨0, [], _, _, Nat.zero_le _, rfl, rfl, O2, Nat.le_refl _, Lib.hid rfl, o2, M2, z2, K2⟩
    case round =>
      obtain ⟨k, out, A', c', hk, rfl, rfl, hown, hlo, HO, oF, M, z, K⟩ := hrel
      clear O2 o2 M2 z2 K2
      by_cases hlt : k < F.length
      · have hy := HFL.out F[k] (List.getElem_mem hlt)
        have HN := Lib.hid (map_take_next (f := secOf m F) hlt HO.out)
        obtain ⟨b3, off3, rfl, hk3, x3⟩ := (Sees.of_own oF).int hlt
        generalize F[k] = y at *
        clear hk3
        go_wp2_with fail
        obtain ⟨wo, hwo⟩ : ∃ wo : World, wo = wr := ⟨_, rfl⟩
        subst hwo
        clear x3
        go_loopw [15, 37] (fun cv jv wx => ∃ j : Nat, j ≤ F.length ∧ jv = .int .i64 (j : Int) ∧ cv = .int .i64 (chTo m F y j) ∧ Below wo.heap.size wo wx) (fun _ jv _ => F.length - (intOf jv).toNat)
        case atStart => exact ⟨0, Nat.zero_le _, rfl, rfl, Below.refl _ _⟩
        case round =>
          obtain ⟨j, hj, rfl, rfl, hb⟩ := hrel
          have hcb := chTo_bd m F y j
          have M4 := M.next hb
          have o4 := own_below oF hb
          have cm := M4.cell
          by_cases hlt2 : j < F.length
          · have hz := HFL.out F[j] (List.getElem_mem hlt2)
            have hcn := chTo_next (m := m) (c := y) hlt2
            obtain ⟨b5, off5, e5, hk5, x5⟩ := (Sees.of_own o4).int hlt2
            injection e5 with e5
            injection e5 with e5 e6
            subst e5 e6
            generalize F[j] = u at *
            have hup : chTo m F y j ≤ 37 := by omega
            have hlow := hcb.1
            have HSZ := HS.out
            obtain ⟨gv, hgv⟩ : ∃ gv, gapI m.width y u = gv := ⟨_, rfl⟩
            have hGV := Lib.hid hgv
            rw [hgv] at hcn
            clear hgv hcb hk5
            by_cases h1 : gv = 1
            · subst h1
              have HC := Lib.hid (hcn.trans (if_pos rfl))
              clear hcn
              go_wp2_with fail
              refine (gapOf_any _ _ _ _ _ _ m y u _ HSZ hy hz).mono ?_
              rw [hGV.out]
              rintro e w7 ⟨rfl, b7⟩
              go_wp2_with fail
              go_roundw
              case rel => exact ⟨j + 1, by omega, by go_num, by rw [HC.out], bel_then hb b7⟩
              case measure => simp [intOf]; omega
            · have HC := Lib.hid (hcn.trans (if_neg h1))
              have hg1 : (gv == 1) = false := by simpa using h1
              clear hcn h1
              go_wp2_with fail
              refine (gapOf_any _ _ _ _ _ _ m y u _ HSZ hy hz).mono ?_
              rw [hGV.out]
              rintro e w7 ⟨rfl, b7⟩
              go_wp2_with fail
              go_roundw
              case rel => exact ⟨j + 1, by omega, by go_num, by rw [HC.out], bel_then hb b7⟩
              case measure => simp [intOf]; omega
          · obtain rfl : j = F.length := by omega
            have O5 := own_below hown hb
            have b5 := hb.size
            have M5 := M4
            have K5 := bel_then K hb
            have HB := Lib.hid hb
            have hlen36 : out.length ≤ 36 := by omega
            clear cm hb M4 hown M oF K
            go_wp2_with (at_builtin; go_loud (refine wpList_pushNew rfl _ _ _ rfl Try.underlying37 info_impl_Sector rfl (by decide) rfl O5 rfl (by simp) (by rfl) (by rfl) (by omega) (by decide) (by omega) ?_); intro A6 c6 w6 o6 h6 b6 q6)
            go_roundw
            case rel => exact ⟨k + 1, out ++ [secOf m F y], A6, c6, by omega, by go_num, by simp, by simpa [Sector.enc, secOf] using o6, by simp; omega, HN, own_only o4 h6 (fun b h1 h2 => by have := HFB.out b h1; have := (own_top O5 h2).1; omega), M5.only h6 (fun h2 => by have := (own_top O5 h2).1; omega), Nat.le_trans (Nat.le_trans z b5) b6.size, K5.trans (b6.mono (by omega))⟩
            case measure => simp [intOf]; omega
      · obtain rfl : k = F.length := by omega
        have HE := Lib.hid (show F.map (secOf m F) = out by rw [← HO.out, List.take_length])
        go_wp2_with fail
        go_ret2
        rw [HR.out, HE.out]
        exact ⟨_, _, rfl, own_base hown (by omega), K⟩


set_option maxRecDepth 100000 in
set_option maxHeartbeats 8000000 in
theorem specChancesOf_any (A1 A2 : Option Addr) (n1 n2 c1 c2 : Nat) (m : MapV) (x : Missing) (pace time : Int) (w : World) (hm : SeesMap w A1 n1 A2 n2 m) (hn : n1 ≤ 1048576 ∧ n2 ≤ 1048576) :
    Calls Try.prog 45 #[.agg #[.int .i64 m.width, .int .i64 m.height, .slice A1 n1 c1, .slice A2 n2 c2], .agg #[.int .i64 x.runner, .int .i64 x.start, .int .i64 x.seen, .int .i64 x.place], .int .i64 pace, .int .i64 time] w (GivesSec w (chancesM m x pace time)) := by
  have K0 : Below w.heap.size w ((w.alloc (.cells #[.int .i64 m.width, .int .i64 m.height, .slice A1 n1 c1, .slice A2 n2 c2] 29)).alloc (.cells #[.int .i64 x.runner, .int .i64 x.start, .int .i64 x.seen, .int .i64 x.place] 31)) := ((Below.refl _ _).alloc (Nat.le_refl _) _).alloc (by simp) _
  have M0 : Blk ((w.alloc (.cells #[.int .i64 m.width, .int .i64 m.height, .slice A1 n1 c1, .slice A2 n2 c2] 29)).alloc (.cells #[.int .i64 x.runner, .int .i64 x.start, .int .i64 x.seen, .int .i64 x.place] 31)) w.heap.size 29 [.int .i64 m.width, .int .i64 m.height, .slice A1 n1 c1, .slice A2 n2 c2] := (Blk.at_ rfl).alloc _
  have X0 : Blk ((w.alloc (.cells #[.int .i64 m.width, .int .i64 m.height, .slice A1 n1 c1, .slice A2 n2 c2] 29)).alloc (.cells #[.int .i64 x.runner, .int .i64 x.start, .int .i64 x.seen, .int .i64 x.place] 31)) (w.heap.size + 1) 31 [.int .i64 x.runner, .int .i64 x.start, .int .i64 x.seen, .int .i64 x.place] := Blk.at_ (by simp)
  have HL2 := Lib.hid hm.f2.icount
  have K1 := K0.alloc (by simp; omega) (.cells #[] 77)
  have M1 := M0.alloc (.cells #[] 77)
  have X1 := X0.alloc (.cells #[] 77)
  have O1 : (((w.alloc (.cells #[.int .i64 m.width, .int .i64 m.height, .slice A1 n1 c1, .slice A2 n2 c2] 29)).alloc (.cells #[.int .i64 x.runner, .int .i64 x.start, .int .i64 x.seen, .int .i64 x.place] 31)).alloc (.cells #[] 77)).ownsRow (w.heap.size + 2) 77 2 (.slice (some ⟨w.heap.size + 2, 0, none⟩) 0 0) 0 (([] : List Sector).flatMap Sector.enc) := own_empty_at 77 2 (by simp)
  clear K0 M0 X0
  go_enter Try.func45, Try.ntmps45
  go_wp2_with fail
  refine (l23Asked_any _ _ _ _ _ _ m x pace time _ (hm.next K1) hn).mono ?_
  rintro e w1 ⟨rfl, b1⟩
  replace K1 := bel_then K1 b1
  replace M1 := M1.next b1
  replace X1 := X1.next b1
  replace O1 := own_below O1 b1
  have lt1 := b1.size
  have lt2 : w.heap.size + 2 < w1.heap.size := by simp at lt1; omega
  clear b1 lt1
  cases g1 : askedB m x pace time
  · have HR := Lib.hid (show chancesM m x pace time = none by unfold askedB at g1; unfold chancesM fieldM; rw [g1]; rfl)
    clear g1
    go_wp2_with fail
    go_ret2
    rw [HR.out]
    exact ⟨_, _, rfl, own_base O1 (by omega), K1⟩
  · have hR : chancesM m x pace time = some ((fieldT m x.place ((time - x.seen) / pace).toNat).map (secOf m (fieldT m x.place ((time - x.seen) / pace).toNat))) := by unfold askedB at g1; unfold chancesM fieldM; rw [g1]; rfl
    unfold askedB at g1
    simp only [Bool.and_eq_true] at g1
    obtain ⟨⟨g1, g2⟩, g3⟩ := g1
    obtain ⟨s1, s2, s3, s4, s5, s6, s7⟩ := missing_facts g1
    have t1 := inB_true g2
    have t2 := inB_true g3
    have hq : 0 ≤ (time - x.seen) / pace ∧ (time - x.seen) / pace ≤ 100000 := ⟨Int.ediv_nonneg (by omega) (by omega), Int.le_trans (Int.ediv_le_self _ (by omega)) (by omega)⟩
    obtain ⟨sn, hsn⟩ := Int.eq_ofNat_of_zero_le hq.1
    rw [hsn] at hq hR
    rw [show ((sn : Int)).toNat = sn from Int.toNat_natCast sn] at hR
    have HR := Lib.hid hR
    have r1 : IntKind.i64.wrap (time - x.seen) = time - x.seen := IntWalk.i64_in _ (by omega)
    have ht : 0 ≤ time - x.seen ∧ time - x.seen ≤ 100000 := by omega
    have r2 : IntKind.i64.wrap ((time - x.seen).tdiv pace) = (sn : Int) := by rw [Int.tdiv_eq_ediv_of_nonneg (by omega), hsn]; exact IntWalk.i64_in _ (by omega)
    have hp0 : (pace == 0) = false := by simp; omega
    have q := (Quiet.one w1).below w1.heap.size
    have K2 := bel_then K1 q
    have M2 := M1.next q
    have X2 := X1.next q
    have O2 := own_below O1 q
    have cm := M2.cell
    have cx := X2.cell
    clear q
    have HC := Lib.hid (And.intro s7 (And.intro s5 hq))
    have HSZ := Lib.hid (And.intro s1 s2)
    have HF0 := Lib.hid (show ∀ y ∈ fieldT m x.place sn, (0 ≤ y ∧ y ≤ 1000000) ∧ chSTo (fieldT m x.place sn) (besideL m.width m.height y) (besideL m.width m.height y).length = chTo m (fieldT m x.place sn) y (fieldT m x.place sn).length from fun y hy => by
      have h1 := (mem_fieldL.1 hy).1
      exact ⟨by omega, chances_eq s7 h1⟩)
    have HF1 := Lib.hid (show (fieldT m x.place sn).length ≤ 36 from Nat.le_trans (fieldL_len _ _ _ _) s4)
    clear s7 s5 s4 s6 t2 hsn hR s1 s2 s3
    have hpn : ¬ pace = 0 := by omega
    have hq1 : (pace != 0) = true := by simp [hpn]
    clear g1 g2 g3 K1 M1 X1 O1
    go_wp2_with fail
    go_region_held3 (fun w' => w'.cell? ⟨w.heap.size, 0, none⟩ = some (.int .i64 m.width) ∧ w'.cell? ⟨w.heap.size, 1, none⟩ = some (.int .i64 m.height) ∧ w'.cell? ⟨w.heap.size, 2, none⟩ = some (.slice A1 n1 c1) ∧ w'.cell? ⟨w.heap.size, 3, none⟩ = some (.slice A2 n2 c2) ∧ w'.cell? ⟨w.heap.size + 1, 2, none⟩ = some (.int .i64 x.seen) ∧ w'.cell? ⟨w.heap.size + 1, 3, none⟩ = some (.int .i64 x.place)) (go_keep)
      (first
        | (go_at_call 83
           refine (l23Field_any _ _ _ _ _ _ m x.place (sn : Int) _ (hm.next K2) HC.out.1 HC.out.2.1 HC.out.2.2).mono ?_
           rintro e w3 ⟨A3, c3, rfl, o3, b3⟩
           have K3 := bel_then K2 b3
           clear cm cx
           have M3 := M2.next b3
           have O3 := own_below O2 b3
           have cm := M3.cell
           have cx := (X2.next b3).cell
           have z3 := b3.size
           clear b3))
    rw [show ((sn : Int)).toNat = sn from Int.toNat_natCast sn] at o3
    have o3' := own_base o3 (Nat.zero_le _)
    have hfar : ∀ b, OwnB A3 b → ¬ OwnB (some ⟨w.heap.size + 2, 0, none⟩) b := fun b h1 h2 => by
      have h3 := (own_top o3 h1).1
      have h4 : w.heap.size + 2 = b := by simpa [OwnB, Value.ownBlock] using h2
      have h5 : w1.drew.heap.size = w1.heap.size := rfl
      omega
    have HFAR := Lib.hid hfar
    have z4 : w.heap.size + 2 ≤ w3.heap.size := by have h5 : w1.drew.heap.size = w1.heap.size := rfl; omega
    clear hfar o3 z3 cm cx K2 M2 X2 O2 r1 r2 lt2
    obtain ⟨F, hF⟩ : ∃ F, fieldT m x.place sn = F := ⟨_, rfl⟩
    rw [hF] at HR HF0 HF1 o3' ⊢
    clear hF
    have hF36 : F.length ≤ 36 := HF1.out
    go_wp2_with fail
    go_loopw [10, 12] (fun v i wr => ∃ (k : Nat) (out : List Sector) (A' : Option Addr) (c' : Nat), k ≤ F.length ∧ i = .int .i64 (k : Int) ∧ v = .slice A' out.length c' ∧ wr.ownsRow (w.heap.size + 2) 77 2 (.slice A' out.length c') out.length (out.flatMap Sector.enc) ∧ out.length ≤ k ∧ Hid ((F.take k).map (secOf m F) = out) ∧ wr.ownsRow 0 3 1 (.slice A3 F.length c3) F.length (ints F) ∧ Hid (∀ b, OwnB A3 b → ¬ OwnB A' b) ∧ Blk wr w.heap.size 29 [.int .i64 m.width, .int .i64 m.height, .slice A1 n1 c1, .slice A2 n2 c2] ∧ w.heap.size + 2 ≤ wr.heap.size ∧ Below w.heap.size w wr) (fun _ i _ => F.length - (intOf i).toNat)
    case atStart => exact ⟨0, [], _, _, Nat.zero_le _, rfl, rfl, O3, Nat.le_refl _, Lib.hid rfl, o3', HFAR, M3, z4, K3⟩
    case round =>
      obtain ⟨k, out, A', c', hk, rfl, rfl, hown, hlo, HO, oF, HFR, M, z, K⟩ := hrel
      clear O3 o3' HFAR M3 z4 K3
      by_cases hlt : k < F.length
      · obtain ⟨hy, hch⟩ := HF0.out F[k] (List.getElem_mem hlt)
        have HCH := Lib.hid hch
        have HN := Lib.hid (map_take_next (f := secOf m F) hlt HO.out)
        clear hch
        have q := (Quiet.one wr).below wr.heap.size
        replace K := bel_then K q
        replace M := M.next q
        replace hown := own_below hown q
        replace oF := own_below oF q
        have z5 : w.heap.size + 2 ≤ wr.drew.heap.size := z
        obtain ⟨b3, off3, rfl, hk3, x3⟩ := (Sees.of_own oF).int hlt
        obtain ⟨y, hY⟩ : ∃ y, F[k] = y := ⟨_, rfl⟩
        rw [hY] at hy HCH HN
        rw [show F[k] = y from hY] at x3
        have HY := Lib.hid hY
        have cm := M.cell
        clear q z hY
        go_wp2_with fail
        go_region_held3 (fun w' => w'.cell? ⟨b3, off3 + k, none⟩ = some (.int .i64 y) ∧ w'.cell? ⟨w.heap.size, 0, none⟩ = some (.int .i64 m.width) ∧ w'.cell? ⟨w.heap.size, 1, none⟩ = some (.int .i64 m.height) ∧ w'.cell? ⟨w.heap.size, 2, none⟩ = some (.slice A1 n1 c1) ∧ w'.cell? ⟨w.heap.size, 3, none⟩ = some (.slice A2 n2 c2)) (go_keep)
          (first
            | (go_at_call 92
               refine (l23Beside_any _ _ _ _ _ _ m y _ HSZ.out hy).mono ?_
               rintro e w4 ⟨A4, c4, rfl, o4, b4⟩
               clear cm x3
               replace K := bel_then K b4
               replace M := M.next b4
               replace hown := own_below hown b4
               replace oF := own_below oF b4
               have z6 := b4.size
               clear b4
               have cm := M.cell
               obtain ⟨b', o', e', _, x3⟩ := (Sees.of_own oF).int hlt
               injection e' with e'
               injection e' with e1 e2
               subst e1 e2
               rw [show F[k] = y from HY.out] at x3))
        have hB4 := beside_len m.width m.height y
        obtain ⟨B, hB⟩ : ∃ B, besideL m.width m.height y = B := ⟨_, rfl⟩
        rw [hB] at o4 HCH hB4 ⊢
        clear hB cm x3
        have o4' := own_base o4 (Nat.zero_le _)
        have z7 : w.heap.size + 2 ≤ w4.heap.size := Nat.le_trans z5 z6
        clear o4 z5 z6
        go_wp2_with fail
        obtain ⟨wo, hwo⟩ : ∃ wo : World, wo = w4 := ⟨_, rfl⟩
        subst hwo
        go_loopw [13, 15] (fun cv jv wx => ∃ j : Nat, j ≤ B.length ∧ jv = .int .i64 (j : Int) ∧ cv = .int .i64 (chSTo F B j) ∧ Below wo.heap.size wo wx) (fun _ jv _ => B.length - (intOf jv).toNat)
        case atStart => exact ⟨0, Nat.zero_le _, rfl, rfl, Below.refl _ _⟩
        case round =>
          obtain ⟨j, hj, rfl, rfl, hb⟩ := hrel
          have hcb := chSTo_bd F B j
          have hlow := hcb.1
          have hup : chSTo F B j ≤ 5 := by omega
          clear hcb
          have o5 := own_below o4' hb
          have oF5 := own_below oF hb
          by_cases hlt2 : j < B.length
          · have hcn := chSTo_next (F := F) hlt2
            obtain ⟨b5, off5, rfl, hk5, x5⟩ := (Sees.of_own o5).int hlt2
            generalize B[j] = u at *
            clear hk5
            cases h1 : hasI F u
            all_goals
              have HH := Lib.hid h1
              have HC := Lib.hid (by rw [h1] at hcn; exact hcn)
              clear hcn h1
              go_wp2_with fail
              refine (l1Has_any _ _ _ F u _ (Sees.of_own oF5) (by omega)).mono ?_
              rw [HH.out]
              rintro e w7 ⟨rfl, q7⟩
              have b7 := bel_quiet hb q7
              go_wp2_with fail
              go_roundw
              case rel => exact ⟨j + 1, by omega, by go_num, by rw [HC.out]; simp, b7⟩
              case measure => simp [intOf]; omega
          · obtain rfl : j = B.length := by omega
            have O5 := own_below hown hb
            have b5 := hb.size
            have M5 := M.next hb
            have K5 := bel_then K hb
            have hlen36 : out.length ≤ 36 := by omega
            obtain ⟨b', o', e', _, x3⟩ := (Sees.of_own oF5).int hlt
            injection e' with e'
            injection e' with e1 e2
            subst e1 e2
            rw [show F[k] = y from HY.out] at x3
            obtain ⟨cv, hcv⟩ : ∃ cv, chSTo F B B.length = cv := ⟨_, rfl⟩
            have HCV := Lib.hid (show cv = chTo m F y F.length from hcv.symm.trans HCH.out)
            rw [hcv]
            clear hb hown M oF K o5 o4' hlow hup hcv
            go_wp2_with (at_builtin; go_loud (refine wpList_pushNew rfl _ _ _ rfl Try.underlying37 info_impl_Sector rfl (by decide) rfl O5 rfl (by simp) (by rfl) (by rfl) (by omega) (by decide) (by omega) ?_); intro A6 c6 w6 o6 h6 b6 q6)
            go_roundw
            case rel => exact ⟨k + 1, out ++ [secOf m F y], A6, c6, by omega, by go_num, by simp, by rw [HCV.out] at o6; simpa [Sector.enc, secOf] using o6, by simp; omega, HN, own_only oF5 h6 (fun b h1 h2 => HFR.out b h1 h2), Lib.hid (fun b h1 h2 => by
              rcases q6 b h2 with h5 | h5
              · exact HFR.out b h1 h5
              · have := (own_top oF5 h1).2; omega), M5.only h6 (fun h2 => by have := (own_top O5 h2).1; omega), Nat.le_trans (Nat.le_trans z7 b5) b6.size, K5.trans (b6.mono (by omega))⟩
            case measure => simp [intOf]; omega
      · obtain rfl : k = F.length := by omega
        have HE := Lib.hid (show F.map (secOf m F) = out by rw [← HO.out, List.take_length])
        go_wp2_with fail
        go_ret2
        rw [HR.out, HE.out]
        exact ⟨_, _, rfl, own_base hown (by omega), K⟩

end Go.Proofs.Ytjcmlloglnkbfaa
