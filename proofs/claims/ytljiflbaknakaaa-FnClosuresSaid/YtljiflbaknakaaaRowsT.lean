/- The law's own helpers over slices of slices of integers. -/
import Derived.Test.YtljiflbaknakaaaNest
import Derived.Test.YtljiflbaknakaaaOwn
namespace Go.Proofs.Ytljiflbaknakaaa
open Go.RowKit

def rowSh : Sh (List Int) := ⟨fun r => [(.slice r.A r.n r.c)], 1, 1, ints, by decide, fun _ => rfl⟩
def IntRow.cnt (x : List Int) : Nat := x.length
/-- how many marks it takes -/
def IntRow.wt (x : List Int) : Nat := x.length
def IntRow.mark (k : Int) (x : List Int) : List Int := marks k x.length
theorem info_intRow : (Try.prog.info? 22).map (fun i => (i.zero, i.size, i.bytes)) = some (some (.slice none 0 0), 1, 24) := by kernel_rfl
theorem SeesRow.elem {w : World} {lo n k : Nat} {A : Option Addr} {xs : List (List Int)} (h : SeesN rowSh w lo A n xs) (hk : k < n) :
    ∃ (b off : Nat) (B : Option Addr) (m d : Nat), A = some ⟨b, off, none⟩ ∧ ∃ hkx : k < xs.length, w.cell? ⟨b, off + k, none⟩ = some (.slice B m d) ∧ Sees w lo 1 B m (ints xs[k]) := by
  obtain ⟨rs, rfl, h2, h3⟩ := h
  obtain ⟨b, off, u, rfl, _, _, hu, hc⟩ := Sees.one (show Sees w lo 1 A n (rs.flatMap rowSh.enc) from h2) hk
  have hl : rs.length = n := h2.count rowSh.pos rowSh.len
  have hkr : k < rs.length := by omega
  have hg := heads_get (sh := rowSh) rs k 0 hkr (by decide)
  rw [show k * rowSh.s + 0 = k from Nat.mul_one k, hu] at hg
  injection hg with hg
  subst hg
  have hx : (rs.map Hd.x)[k]'(by simpa using hkr) = rs[k].x := by simp
  exact ⟨b, off, rs[k].A, rs[k].n, rs[k].c, rfl, by simpa using hkr, hc, by rw [hx]; exact h3 rs[k] (List.getElem_mem hkr)⟩

theorem eqIntSS_any (A A' : Option Addr) (n n' c c' lo lo' : Nat) (xs ys : List (List Int)) (w : World) (hx : SeesN rowSh w lo A n xs) (hy : SeesN rowSh w lo' A' n' ys) (he : xs = ys) (hn : n ≤ 140737488355328) (hi : ∀ x ∈ xs, IntRow.cnt x ≤ 1048576) :
    Calls Try.prog 39 #[.slice A n c, .slice A' n' c'] w fun e w' => e = .returned (.bool true) ∧ Below w.heap.size w w' := by
  subst he
  have hl := hx.count
  have hl' := hy.count
  obtain rfl : n = n' := by omega
  go_enter Try.func39, Try.ntmps39
  go_wp2_with fail
  go_loopw [5] (fun v wr => ∃ k : Nat, k ≤ n ∧ v = .int .i64 k ∧ Quiet w wr) (fun v _ => n - (intOf v).toNat)
  case atStart => exact ⟨0, Nat.zero_le _, rfl, Quiet.refl _⟩
  case round =>
    obtain ⟨k, hk, rfl, hq⟩ := hrel
    by_cases hlt : k < n
    · obtain ⟨b, off, B0, m, cc0, rfl, hkx, c0, hxi⟩ := SeesRow.elem (hx.quiet hq) hlt
      obtain ⟨b', off', B0', m', cc1, rfl, hky, d0, hyi⟩ := SeesRow.elem (hy.quiet hq) hlt
      have hm : m ≤ 1048576 := by
        have h1 := hi xs[k] (List.getElem_mem hkx)
        have h2 := hxi.icount
        unfold IntRow.cnt at h1
        omega
      go_wp2_with fail
      go_quiet ((go_at_call 24; exact quiet_rightG (eqIntS_any _ _ _ _ cc0 cc1 _ _ xs[k] xs[k] _ (hxi.quiet (Quiet.mk _ _)) (hyi.quiet (Quiet.mk _ _)) rfl (by omega))))
      go_wp2_with fail
      go_roundw
      case rel => exact ⟨k + 1, by omega, by go_num, hq.more _⟩
      case measure => simp [intOf]; omega
    · go_wp2_with fail
      go_ret
      exact ⟨rfl, hq.below _⟩

set_option maxHeartbeats 1000000 in
theorem heldIntSS_any (lo n c : Nat) (A : Option Addr) (xs : List (List Int)) (k0 : Int) (w : World) (hx : SeesN rowSh w lo A n (marksN IntRow.mark IntRow.wt k0 xs)) (h0 : 0 ≤ k0) (h1 : k0 + wtN IntRow.wt xs ≤ 1000000000) (hn : n ≤ 1048576) :
    Calls Try.prog 41 #[.slice A n c, .int .i64 k0] w fun e w' => e = .returned (.int .i64 (k0 + wtN IntRow.wt xs)) ∧ Quiet w w' := by
  have hl := hx.count
  rw [marksN_length] at hl
  go_enter Try.func41, Try.ntmps41
  go_wp2_with fail
  go_loopw [1, 5] (fun q v wr => ∃ k : Nat, k ≤ n ∧ q = .int .i64 (k0 + wtN IntRow.wt (xs.take k)) ∧ v = .int .i64 k ∧ Quiet w wr) (fun _ v _ => n - (intOf v).toNat)
  case atStart => exact ⟨0, Nat.zero_le _, by simp [wtN], rfl, Quiet.refl _⟩
  case round =>
    obtain ⟨k, hk, rfl, rfl, hq⟩ := hrel
    by_cases hlt : k < n
    · obtain ⟨b, off, B0, m, cc0, rfl, hkx, c0, hxi⟩ := SeesRow.elem (hx.quiet hq) hlt
      have hkx' : k < xs.length := by omega
      have hwa := wtN_at IntRow.wt hkx'
      have hwn := Lib.hid (wtN_next IntRow.wt hkx')
      simp only [marksN_get _ _ _ hkx', IntRow.mark] at c0 hxi
      have hm : m = xs[k].length := by
        have h2 := hxi.icount
        simp only [marks_length] at h2
        omega
      have hw1 : IntRow.wt xs[k] = m := by unfold IntRow.wt; rw [hm]
      rw [← hm] at hxi
      clear hm
      generalize hK : k0 + (wtN IntRow.wt (xs.take k) : Int) = K at *
      have hK1 := Lib.hid hK
      have hb1 : 0 ≤ K ∧ K ≤ 1000000000 - m := by omega
      clear hK
      have HW := Lib.hid hw1
      clear hw1
      go_wp2_with fail
      refine (heldIntS_any _ _ _ _ _ _ hxi (by omega) (by omega) (by omega)).mono ?_
      rintro e w1 ⟨rfl, q1⟩
      have hnn : ¬ (K + ↑m < 0) := by omega
      have hnn2 : 0 ≤ K + ↑m := by omega
      have hq1 := hq.trans q1
      go_wp2_with fail
      go_roundw
      case rel => exact ⟨k + 1, by omega, by have e1 := hwn.out; have e2 := hK1.out; have e3 := HW.out; congr 1; omega, by go_num, hq1⟩
      case measure => simp [intOf]; omega
    · obtain rfl : k = n := by omega
      rw [List.take_of_length_le (by omega)]
      go_wp2_with fail
      go_ret
      exact ⟨rfl, hq⟩

set_option maxHeartbeats 1000000 in
theorem markIntSS_any (S : Nat → Prop) (n c : Nat) (A : Option Addr) (xs : List (List Int)) (k0 : Int) (w : World) (hM : MineN rowSh w S 22 3 A n c xs) (h0 : 0 ≤ k0) (h1 : k0 + wtN IntRow.wt xs ≤ 1000000000) (hn : n ≤ 1048576) :
    Calls Try.prog 40 #[.slice A n c, .int .i64 k0] w fun e w' => e = .returned (.int .i64 (k0 + wtN IntRow.wt xs)) ∧ MineN rowSh w' S 22 3 A n c (marksN IntRow.mark IntRow.wt k0 xs) ∧ Only S w w' := by
  have hl := hM.count
  obtain ⟨rs0, hrs0, hM⟩ := hM
  rcases own_open hM.outer.own with ⟨rfl, rfl, rfl, hxs⟩ | ⟨g, cur, rfl, hg, hB, hcl, hnc, hcm, htk⟩
  · have hx0 : xs = [] := List.length_eq_zero_iff.1 hl
    subst hx0
    go_enter Try.func40, Try.ntmps40
    go_wp2_with fail
    refine wp_loop_rounds 1 ?_
    rw [rounds_succ]
    go_wp2_with fail
    go_ret
    exact ⟨by simp [wtN], MineN.nil _ _ _ _, Only.refl _ _⟩
  · have hS : S g := hM.outer.top g rfl
    have hag : ∀ r ∈ rs0, ¬ OwnB r.A g := fun r hr hb => hM.apart r hr g hb rfl
    have hl0 : rs0.length = n := by rw [← hl, ← hrs0, List.length_map]
    have hin0 := hM.inners
    clear hM
    go_enter Try.func40, Try.ntmps40
    go_wp2_with fail
    go_loopw [1, 5] (fun q v wr => ∃ (k : Nat) (rs : List (Hd (List Int))), k ≤ n ∧ q = .int .i64 (k0 + wtN IntRow.wt (xs.take k)) ∧ v = .int .i64 k ∧ Blk wr g 22 cur ∧ Hid (rs.map Hd.x = marksN IntRow.mark IntRow.wt k0 (xs.take k) ++ xs.drop k) ∧ rs.length = n ∧ Hid (cur.take (n * 1) = rs.flatMap rowSh.enc) ∧ Inners rowSh wr S 3 rs ∧ (∀ r ∈ rs, ¬ OwnB r.A g) ∧ Only S w wr) (fun _ v _ => n - (intOf v).toNat)
    case atStart => exact ⟨0, rs0, Nat.zero_le _, by simp [wtN], rfl, hB, Lib.hid (by simpa [marksN] using hrs0), hl0, Lib.hid htk, hin0, hag, Only.refl _ _⟩
    case round =>
      obtain ⟨k, rs, hk, rfl, rfl, hB, HR, hrl, hcs, hin, hag, ho⟩ := hrel
      by_cases hlt : k < n
      · have hkx : k < xs.length := by omega
        have hkr : k < rs.length := by omega
        have hrk : rs[k].x = xs[k] := by
          have h2 : (rs.map Hd.x)[k]'(by simpa using hkr) = xs[k] := by
            simp only [HR.out]
            have hlm : (marksN IntRow.mark IntRow.wt k0 (xs.take k)).length = k := by rw [marksN_length, List.length_take]; omega
            rw [List.getElem_append_right (by omega)]
            simp [hlm]
          simpa using h2
        have hmi := (hin.each rs[k] (List.getElem_mem hkr))
        rw [hrk] at hmi
        have hagk := hag rs[k] (List.getElem_mem hkr)
        have hsl := hB.cell k
        have hsl2 : cur[k]? = some (.slice rs[k].A rs[k].n rs[k].c) := by
          have h2 := heads_get (sh := rowSh) rs k 0 hkr (by decide)
          rw [show (rowSh.enc rs[k])[0]? = some (Value.slice rs[k].A rs[k].n rs[k].c) from rfl, ← hcs.out, List.getElem?_take, show k * rowSh.s + 0 = k from Nat.mul_one k, if_pos (by omega)] at h2
          exact h2
        rw [hsl2] at hsl
        have hcnt : xs[k].length = rs[k].n := hmi.sees.icount
        have hwa := wtN_at IntRow.wt hkx
        have hwn := Lib.hid (wtN_next IntRow.wt hkx)
        have hw1 : IntRow.wt xs[k] = rs[k].n := by unfold IntRow.wt; rw [hcnt]
        have hK1 := Lib.hid (show k0 + (wtN IntRow.wt (xs.take k) : Int) = k0 + (wtN IntRow.wt (xs.take k) : Int) from rfl)
        have hb1 : 0 ≤ k0 + (wtN IntRow.wt (xs.take k) : Int) ∧ k0 + (wtN IntRow.wt (xs.take k) : Int) ≤ 1000000000 - (rs[k].n : Int) := by omega
        have hm2 : rs[k].n ≤ 1000000000 := by omega
        have HW := Lib.hid hw1
        have HCN := Lib.hid hcnt
        have HX := Lib.hid hrk
        have H2 := Lib.hid hsl2
        have HL := Lib.hid hrl
        clear hw1 hcnt hrk hsl2 hwa hK1
        generalize hK : k0 + (wtN IntRow.wt (xs.take k) : Int) = K at *
        have hK1 := Lib.hid hK
        clear hK
        go_wp2_with fail
        refine (markIntS_any _ _ _ _ _ _ K _ hmi.exact_ (by omega) (by omega) (by omega)).mono ?_
        rintro e w1 ⟨rfl, M1, q1⟩
        have B1 := hB.only q1 hagk
        have O1 := ho.trans (q1.mono hmi.top)
        go_wp2_with fail
        go_roundw
        case rel =>
          have e4 := hK1.out
          subst e4
          refine ⟨k + 1, rs.set k ⟨IntRow.mark (k0 + wtN IntRow.wt (xs.take k)) xs[k], rs[k].A, rs[k].n, rs[k].c⟩, by omega, ?_, by go_num, B1, Lib.hid (heads_marks hkr hkx HR.out), by rw [List.length_set]; exact HL.out, Lib.hid ?_, hin.set hkr _ q1 (by show Mine _ _ _ _ _ _ _ (ints (marks _ xs[k].length)); rw [HCN.out]; exact M1), heads_apart hkr hag, O1⟩
          · have e2 := hwn.out
            have e3 := HW.out
            congr 1
            omega
          · have e5 := hcs.out
            rw [← HL.out] at e5 ⊢
            refine heads_set (sh := rowSh) hkr _ e5 (fun j hj => ?_) (fun _ _ => rfl)
            match j, hj with
            | 0, _ => rw [show k * rowSh.s + 0 = k from Nat.mul_one k]; exact H2.out
        case measure => simp [intOf]; omega
      · obtain rfl : k = n := by omega
        have e1 : xs.take k = xs := List.take_of_length_le (by omega)
        have e2 : xs.drop k = [] := List.drop_eq_nil_of_le (by omega)
        rw [e1, e2, List.append_nil] at HR
        rw [e1]
        go_wp2_with fail
        go_ret
        exact ⟨rfl, ⟨rs, HR.out, ⟨own_shut hg hB hcl hnc hcm hcs.out, fun b hb => by simp only [OwnB, Value.ownBlock, Option.some.injEq] at hb; subst hb; exact hS⟩, hin, fun r hr b h2 h3 => by simp only [OwnB, Value.ownBlock, Option.some.injEq] at h3; subst h3; exact hag r hr h2⟩, ho⟩

end Go.Proofs.Ytljiflbaknakaaa
