/- Joined texts of this proof: EntM, Text, LogL, ConT. -/
import Derived.Test.YtflpcdffmpfdpaaGreatDoorP03
import Derived.Test.YtflpcdffmpfdpaaGreatDoorP01
namespace Go.Proofs.YtflpcdffmpfdpaaGreatDoor
open Go.RowKit

set_option maxRecDepth 100000 in
set_option maxHeartbeats 1000000 in
theorem markEntrantS_any (S : Nat → Prop) (n c : Nat) (A : Option Addr) (xs : List Entrant) (k0 : Int) (w : World) (hM : MineN entrantSh w S 108 188 A n c xs) (h0 : 0 ≤ k0) (h1 : k0 + wtN Entrant.wt xs ≤ 1000000000) (hn : n ≤ 1048576) :
    Calls Tryz.prog 101 #[.slice A n c, .int .i64 k0] w fun e w' => e = .returned (.int .i64 (k0 + wtN Entrant.wt xs)) ∧ MineN entrantSh w' S 108 188 A n c (marksN Entrant.mark Entrant.wt k0 xs) ∧ Only S w w' := by
  have hl := hM.count
  obtain ⟨rs0, hrs0, hM⟩ := hM
  rcases own_open hM.outer.own with ⟨rfl, rfl, rfl, hxs⟩ | ⟨g, cur, rfl, hg, hB, hcl, hnc, hcm, htk⟩
  · have hx0 : xs = [] := List.length_eq_zero_iff.1 hl
    subst hx0
    go_enter Tryz.func101, Tryz.ntmps101
    go_wp2_with fail
    refine wp_loop_rounds 1 ?_
    rw [rounds_succ]
    go_wp2_with fail
    go_ret
    exact ⟨by simp [wtN], MineN.nil _ _ _ _, Only.refl _ _⟩
  · have hS : S g := hM.outer.top g rfl
    have hag : ∀ r ∈ rs0, ¬ OwnB r.A g := fun r hr hb => hM.apart r hr g hb rfl
    have hl0 : rs0.length = n := by rw [← hl, ← hrs0, List.length_map]
    have hin0 := hM.inners
    have hcl' : n * 5 ≤ cur.length := by rw [hcl]; exact Nat.mul_le_mul_right _ hnc
    clear hM
    go_enter Tryz.func101, Tryz.ntmps101
    go_wp2_with fail
    go_loopw [1, 5] (fun q v wr => ∃ (k : Nat) (cs : List Value) (rs : List (Hd Entrant)), k ≤ n ∧ q = .int .i64 (k0 + wtN Entrant.wt (xs.take k)) ∧ v = .int .i64 k ∧ Blk wr g 108 cs ∧ cs.length = c * 5 ∧ Hid (rs.map Hd.x = marksN Entrant.mark Entrant.wt k0 (xs.take k) ++ xs.drop k) ∧ rs.length = n ∧ cs.take (n * 5) = rs.flatMap entrantSh.enc ∧ Inners entrantSh wr S 188 rs ∧ (∀ r ∈ rs, ¬ OwnB r.A g) ∧ Only S w wr) (fun _ v _ => n - (intOf v).toNat)
    case atStart => exact ⟨0, _, rs0, Nat.zero_le _, by simp [wtN], rfl, hB, hcl, Lib.hid (by simpa [marksN] using hrs0), hl0, htk, hin0, hag, Only.refl _ _⟩
    case round =>
      obtain ⟨k, cs, rs, hk, rfl, rfl, hB, hcl, HR, hrl, hcs, hin, hag, ho⟩ := hrel
      by_cases hlt : k < n
      · have hkx : k < xs.length := by omega
        have hkr : k < rs.length := by omega
        have hrk : rs[k].x = xs[k] := by
          have h2 : (rs.map Hd.x)[k]'(by simpa using hkr) = xs[k] := by
            simp only [HR.out]
            have hlm : (marksN Entrant.mark Entrant.wt k0 (xs.take k)).length = k := by rw [marksN_length, List.length_take]; omega
            rw [List.getElem_append_right (by omega)]
            simp [hlm]
          simpa using h2
        have hmi := (hin.each rs[k] (List.getElem_mem hkr))
        rw [hrk] at hmi
        have hagk := hag rs[k] (List.getElem_mem hkr)
        have hsl := hB.cell (k * 5 + 4)
        have hsl2 : cs[k * 5 + 4]? = some (.slice rs[k].A rs[k].n rs[k].c) := by
          have h2 := heads_get (sh := entrantSh) rs k 4 hkr (by decide)
          rw [show (entrantSh.enc rs[k])[4]? = some (Value.slice rs[k].A rs[k].n rs[k].c) from rfl, ← hcs, List.getElem?_take, if_pos (by show k * 5 + 4 < n * 5; omega)] at h2
          exact h2
        rw [hsl2] at hsl
        have hcnt := hmi.sees.count (by decide) (fun _ => rfl)
        have hwa := wtN_at Entrant.wt hkx
        have hwn := Lib.hid (wtN_next Entrant.wt hkx)
        have hw1 : Entrant.wt xs[k] = rs[k].n * 2 + 4 := by unfold Entrant.wt; rw [hcnt]
        have hlt4 : k * 5 + 5 ≤ cs.length := by rw [hcl]; omega
        have HRk := Lib.hid (show rs.set k ⟨Entrant.mark (k0 + wtN Entrant.wt (xs.take k)) xs[k], rs[k].A, rs[k].n, rs[k].c⟩ = rs.set k ⟨Entrant.mark (k0 + wtN Entrant.wt (xs.take k)) xs[k], rs[k].A, rs[k].n, rs[k].c⟩ from rfl)
        have hfz := hB.frozen
        generalize hK : k0 + (wtN Entrant.wt (xs.take k) : Int) = K at *
        generalize hm : rs[k].n = m at *
        generalize hrA : rs[k].A = Ak at *
        generalize hrc : rs[k].c = ck at *
        obtain ⟨v0, s0⟩ : ∃ u, wr.cell? ⟨g, k * 5, none⟩ = some u := ⟨_, (hB.cell _).trans (List.getElem?_eq_getElem (by omega))⟩
        obtain ⟨v1, s1⟩ : ∃ u, wr.cell? ⟨g, k * 5 + 1, none⟩ = some u := ⟨_, (hB.cell _).trans (List.getElem?_eq_getElem (by omega))⟩
        obtain ⟨v2, s2⟩ : ∃ u, wr.cell? ⟨g, k * 5 + 2, none⟩ = some u := ⟨_, (hB.cell _).trans (List.getElem?_eq_getElem (by omega))⟩
        obtain ⟨v3, s3⟩ : ∃ u, wr.cell? ⟨g, k * 5 + 3, none⟩ = some u := ⟨_, (hB.cell _).trans (List.getElem?_eq_getElem (by omega))⟩
        have hK1 := Lib.hid hK
        have HA := Lib.hid hrA
        have HM := Lib.hid hm
        have HC := Lib.hid hrc
        have HX := Lib.hid hrk
        have H2 := Lib.hid hsl2
        have HCN := Lib.hid hcnt
        have hb1 : 0 ≤ K ∧ K ≤ 1000000000 - (m * 2 + 4) := by omega
        have hm2 : m * 2 ≤ 1000000000 := by omega
        clear hK hrA hm hrc hrk hsl2 hcnt
        go_wp2_with fail
        have B1 := ((((hB.set_ (k * 5) (.int .i64 (K))).set_ (k * 5 + 1) (.int .i64 (K + 1))).set_ (k * 5 + 2) (.int .i64 (K + 1 + 1))).set_ (k * 5 + 3) (.int .i64 (K + 1 + 1 + 1)))
        have O1 := ((((ho.setCell (p := ⟨g, k * 5, none⟩) hS (.int .i64 (K))).setCell (p := ⟨g, k * 5 + 1, none⟩) hS (.int .i64 (K + 1))).setCell (p := ⟨g, k * 5 + 2, none⟩) hS (.int .i64 (K + 1 + 1))).setCell (p := ⟨g, k * 5 + 3, none⟩) hS (.int .i64 (K + 1 + 1 + 1)))
        refine (markPunchS_any _ _ _ _ _ _ (K + 1 + 1 + 1 + 1) _ (hmi.exact_.only (T := fun b => b = g) ((((((Only.refl (fun b => b = g) wr).setCell (p := ⟨g, k * 5, none⟩) rfl (.int .i64 (K))).setCell (p := ⟨g, k * 5 + 1, none⟩) rfl (.int .i64 (K + 1))).setCell (p := ⟨g, k * 5 + 2, none⟩) rfl (.int .i64 (K + 1 + 1))).setCell (p := ⟨g, k * 5 + 3, none⟩) rfl (.int .i64 (K + 1 + 1 + 1)))) (fun b h2 h3 => hagk (h3 ▸ h2))) (by omega) (by omega) (by omega)).mono ?_
        rintro e w1 ⟨rfl, M1, q1⟩
        have B2 := B1.only q1 hagk
        have O2 := O1.trans (q1.mono hmi.top)
        have hfz2 := B2.frozen

        go_wp2_with fail
        have e1 := HA.out
        have e2 := HM.out
        have e3 := HC.out
        have e4 := hK1.out
        subst e1 e2 e3 e4
        have hkl : k * 5 + 5 ≤ cs.length := hlt4
        go_roundw
        case rel =>
          have hin1 := hin.onlyA (T := fun b => b = g) ((((((Only.refl (fun b => b = g) wr).setCell (p := ⟨g, k * 5, none⟩) rfl (.int .i64 (k0 + ↑(wtN Entrant.wt (xs.take k))))).setCell (p := ⟨g, k * 5 + 1, none⟩) rfl (.int .i64 (k0 + ↑(wtN Entrant.wt (xs.take k)) + 1))).setCell (p := ⟨g, k * 5 + 2, none⟩) rfl (.int .i64 (k0 + ↑(wtN Entrant.wt (xs.take k)) + 1 + 1))).setCell (p := ⟨g, k * 5 + 3, none⟩) rfl (.int .i64 (k0 + ↑(wtN Entrant.wt (xs.take k)) + 1 + 1 + 1)))) (fun r hr b h2 h3 => hag r hr (h3 ▸ h2))
          have hin2 := hin1.set hkr (Entrant.mark (k0 + wtN Entrant.wt (xs.take k)) xs[k]) q1 (by show Mine _ _ _ _ _ _ _ ((marksOf Punch.mark 2 (k0 + ↑(wtN Entrant.wt (xs.take k)) + 1 + 1 + 1 + 1) xs[k].punches.length).flatMap Punch.enc); rw [HCN.out]; exact M1)
          have hag2 := heads_apart (y := Entrant.mark (k0 + wtN Entrant.wt (xs.take k)) xs[k]) hkr hag
          have hin3 := hin2.onlyA (T := fun b => b = g) ((Only.refl (fun b => b = g) w1)) (fun r hr b h2 h3 => hag2 r hr (h3 ▸ h2))
          have B3 := B2
          have O3 := O2
          refine ⟨k + 1, _, _, by omega, ?_, by go_num, B3, ?_, Lib.hid (heads_marks hkr hkx HR.out), ?_, ?_, hin3, hag2, O3⟩
          rotate_left
          · simp only [List.length_set]; exact hcl
          · rw [List.length_set]; exact hrl
          rotate_left
          · have e2 := hwn.out
            congr 1
            omega
          · rw [← hrl]
            refine heads_set (sh := entrantSh) hkr _ (by rw [hrl]; exact hcs) (fun j hj => ?_) (fun j hj => ?_)
            · have e5 := H2.out
              have e6 := HCN.out
              match j, hj with
              | 0, _ => rw [show k * entrantSh.s + 0 = k * 5 from rfl, List.getElem?_set_ne (by omega), List.getElem?_set_ne (by omega), List.getElem?_set_ne (by omega), List.getElem?_set_self (by first | omega | (simp only [List.length_set]; omega))]; rfl
              | 1, _ => rw [show k * entrantSh.s + 1 = k * 5 + 1 from rfl, List.getElem?_set_ne (by omega), List.getElem?_set_ne (by omega), List.getElem?_set_self (by first | omega | (simp only [List.length_set]; omega))]; rfl
              | 2, _ => rw [show k * entrantSh.s + 2 = k * 5 + 2 from rfl, List.getElem?_set_ne (by omega), List.getElem?_set_self (by first | omega | (simp only [List.length_set]; omega))]; rfl
              | 3, _ => rw [show k * entrantSh.s + 3 = k * 5 + 3 from rfl, List.getElem?_set_self (by first | omega | (simp only [List.length_set]; omega))]; rfl
              | 4, _ => rw [show k * entrantSh.s + 4 = k * 5 + 4 from rfl, List.getElem?_set_ne (by omega), List.getElem?_set_ne (by omega), List.getElem?_set_ne (by omega), List.getElem?_set_ne (by omega)]; exact e5
            · have hj' : ¬ (k * 5 ≤ j ∧ j < k * 5 + 5) := hj
              rw [List.getElem?_set_ne (by omega), List.getElem?_set_ne (by omega), List.getElem?_set_ne (by omega), List.getElem?_set_ne (by omega)]
        case measure => simp [intOf]; omega
      · obtain rfl : k = n := by omega
        have e1 : xs.take k = xs := List.take_of_length_le (by omega)
        have e2 : xs.drop k = [] := List.drop_eq_nil_of_le (by omega)
        rw [e1, e2, List.append_nil] at HR
        rw [e1]
        go_wp2_with fail
        go_ret
        exact ⟨rfl, ⟨rs, HR.out, ⟨own_shut hg hB hcl hnc hcm hcs, fun b hb => by simp only [OwnB, Value.ownBlock, Option.some.injEq] at hb; subst hb; exact hS⟩, hin, fun r hr b h2 h3 => by simp only [OwnB, Value.ownBlock, Option.some.injEq] at h3; subst h3; exact hag r hr h2⟩, ho⟩

end Go.Proofs.YtflpcdffmpfdpaaGreatDoor

namespace Go.Proofs.YtflpcdffmpfdpaaGreatDoor
open Go.RowKit

/-- a small letter -/
def lowB (c : UInt8) : Bool := decide (97 ≤ c.toNat) && decide (c.toNat ≤ 122)
theorem bytes_all {p : UInt8 → Bool} (s : ByteArray) (h : ∀ k (hk : k < s.size), p s[k] = true) : s.data.toList.all p = true := by
  rw [List.all_eq_true]
  intro x hx
  obtain ⟨k, hk, rfl⟩ := List.getElem_of_mem hx
  exact h k (by simpa using hk)
theorem bytes_not {p : UInt8 → Bool} (s : ByteArray) (k : Nat) (hk : k < s.size) (h : p s[k] = false) : s.data.toList.all p = false := by
  rw [List.all_eq_false]
  exact ⟨s[k], List.mem_of_getElem (i := k) (h := by simpa using hk) rfl, by simp [h]⟩
theorem str_beq (a b : ByteArray) : (a.toList == b.toList) = decide (a = b) := by
  rw [Bool.eq_iff_iff, ByteArray.toList_eq, ByteArray.toList_eq]
  simp only [beq_iff_eq, decide_eq_true_eq]
  exact ⟨fun h => ByteArray.ext (Array.toList_inj.1 h), fun h => by rw [h]⟩
def digitS (k : Nat) : ByteArray := ⟨#[UInt8.ofNat (48 + k % 10)]⟩
def markGo : Nat → Nat → ByteArray → ByteArray
  | 0, _, out => out
  | fuel + 1, k, out => if k = 0 then out else markGo fuel (k / 10) (digitS k ++ out)
/-- the law's mark of a string -/
def markT (k : Int) : ByteArray := if k ≤ 0 then ⟨#[109, 48]⟩ else ⟨#[109]⟩ ++ markGo 20 k.toNat ⟨#[]⟩
end Go.Proofs.YtflpcdffmpfdpaaGreatDoor

namespace Go.Proofs.YtflpcdffmpfdpaaGreatDoor
open Go.RowKit

structure Log where
  durable : ByteArray
  pending : ByteArray
  count : Int
deriving DecidableEq
def Log.enc (x : Log) : List Value := [.string x.durable, .string x.pending, .int .i64 x.count]
/-- its strings are no longer than m -/
def Log.upto (m : Nat) (x : Log) : Prop := x.durable.size ≤ m ∧ x.pending.size ≤ m
def Log.mark (k : Int) : Log := ⟨markT (k), markT (k + 1), k + 1 + 1⟩

theorem toLog_any (a0 : ByteArray) (a1 : ByteArray) (a2 : Int) (w : World) : Calls Tryz.prog 33 #[.agg #[.string a0, .string a1, .int .i64 a2]] w fun e w' => e = .returned (.agg #[.string a0, .string a1, .int .i64 a2]) ∧ Below w.heap.size w w' := by
  go_enter Tryz.func33, Tryz.ntmps33
  go_wp2
  exact bodyPost_ret (v := .agg #[.string a0, .string a1, .int .i64 a2]) (by simp [results, Tryz.results33, go_sem]) rfl ⟨rfl, (((Below.refl _ _).alloc (Nat.le_refl _) _).alloc (by simp) _).alloc (by simp; omega) _⟩

theorem eqLog_any (a0 : ByteArray) (a1 : ByteArray) (a2 : Int) (w : World) : Calls Tryz.prog 52 #[.agg #[.string a0, .string a1, .int .i64 a2], .agg #[.string a0, .string a1, .int .i64 a2]] w fun e w' => e = .returned (.bool true) ∧ Below w.heap.size w w' := by
  go_enter Tryz.func52, Tryz.ntmps52
  go_wp2
  go_ret
  exact ⟨rfl, ((Below.refl _ _).alloc (Nat.le_refl _) _).alloc (by simp) _⟩

theorem szLog_any (x : Log) (left : Int) (w : World) (hx : x.upto 9223372036854775807) (hl : 0 ≤ left) (hl' : left ≤ 1048576) :
    Calls Tryz.prog 32 #[.agg #[.string x.durable, .string x.pending, .int .i64 x.count], .int .i64 left] w fun e w' => ∃ l : Int, e = .returned (.int .i64 l) ∧ Below w.heap.size w w' ∧ (l = -1 ∨ 0 ≤ l ∧ l ≤ left ∧ x.upto 1048576) := by
  unfold Log.upto at *
  go_enter Tryz.func32, Tryz.ntmps32
  go_wp2
  all_goals go_ret
  all_goals refine ⟨_, rfl, (Below.refl _ _).alloc (Nat.le_refl _) _, ?_⟩
  all_goals first | exact .inl rfl | (right; omega) | (right; simp only; omega)

end Go.Proofs.YtflpcdffmpfdpaaGreatDoor

namespace Go.Proofs.YtflpcdffmpfdpaaGreatDoor
open Go.RowKit


theorem eqRace_any (t : Int) (b : Bool) (A B : Option Addr) (n n' c c' lo lo' : Nat) (xs ys : List Entrant) (w : World) (hx : SeesN entrantSh w lo A n xs) (hy : SeesN entrantSh w lo' B n' ys) (he : xs = ys) (hn : n ≤ 1048576) (hi : ∀ x ∈ xs, x.cnt ≤ 1048576) :
    Calls Tryz.prog 51 #[.agg #[.int .i64 t, .bool b, .slice A n c], .agg #[.int .i64 t, .bool b, .slice B n' c']] w fun e w' => e = .returned (.bool true) ∧ Below w.heap.size w w' := by
  have e1 : (t != t) = false := bne_self_eq_false t
  have e2 : (b != b) = false := bne_self_eq_false b
  go_enter Tryz.func51, Tryz.ntmps51
  go_wp2_with fail
  have K0 : Below w.heap.size w _ := ((Below.refl w.heap.size w).alloc (Nat.le_refl _) (.cells #[.int .i64 t, .bool b, .slice A n c] 32)).alloc (by simp) (.cells #[.int .i64 t, .bool b, .slice B n' c'] 32)
  refine (eqEntrantS_any _ _ _ _ c c' _ _ xs ys _ (hx.next K0) (hy.next K0) he (by omega) hi).mono ?_
  rintro e w1 ⟨rfl, b1⟩
  go_wp2_with fail
  go_ret
  exact ⟨rfl, bel_then K0 b1⟩

theorem eqConsole_any (t : Int) (b : Bool) (l : Log) (A B : Option Addr) (n n' c c' lo lo' : Nat) (xs ys : List Entrant) (w : World) (hx : SeesN entrantSh w lo A n xs) (hy : SeesN entrantSh w lo' B n' ys) (he : xs = ys) (hn : n ≤ 1048576) (hi : ∀ x ∈ xs, x.cnt ≤ 1048576) :
    Calls Tryz.prog 13 #[.agg #[.int .i64 t, .bool b, .slice A n c, .string l.durable, .string l.pending, .int .i64 l.count], .agg #[.int .i64 t, .bool b, .slice B n' c', .string l.durable, .string l.pending, .int .i64 l.count]] w fun e w' => e = .returned (.bool true) ∧ Below w.heap.size w w' := by
  have e1 : (t != t) = false := bne_self_eq_false t
  have e2 : (b != b) = false := bne_self_eq_false b
  go_enter Tryz.func13, Tryz.ntmps13
  go_wp2_with fail
  have K0 : Below w.heap.size w _ := ((Below.refl w.heap.size w).alloc (Nat.le_refl _) (.cells #[.int .i64 t, .bool b, .slice A n c, .string l.durable, .string l.pending, .int .i64 l.count] 35)).alloc (by simp) (.cells #[.int .i64 t, .bool b, .slice B n' c', .string l.durable, .string l.pending, .int .i64 l.count] 35)
  refine (eqRace_any t b A B n n' c c' _ _ xs ys _ (hx.next K0) (hy.next K0) he hn hi).mono ?_
  rintro e w1 ⟨rfl, b1⟩
  have K1 := bel_then K0 b1
  have P1 : Blk w1 w.heap.size 35 [.int .i64 t, .bool b, .slice A n c, .string l.durable, .string l.pending, .int .i64 l.count] := ((Blk.at_ rfl).alloc _).next b1
  have P2 : Blk w1 (w.heap.size + 1) 35 [.int .i64 t, .bool b, .slice B n' c', .string l.durable, .string l.pending, .int .i64 l.count] := (Blk.at_ (by simp)).next b1
  have p1 := P1.cell
  have p2 := P2.cell
  go_wp2_with fail
  refine (eqLog_any l.durable l.pending l.count _).mono ?_
  rintro e w2 ⟨rfl, b2⟩
  go_wp2_with fail
  go_ret
  exact ⟨rfl, bel_then K1 b2⟩

theorem markRace_any (S : Nat → Prop) (t : Int) (b : Bool) (A : Option Addr) (n c : Nat) (xs : List Entrant) (k0 : Int) (w : World) (hM : MineN entrantSh w S 108 188 A n c xs) (h0 : 0 ≤ k0) (h1 : k0 + wtN Entrant.wt xs ≤ 1000000000) (hn : n ≤ 1048576) :
    Calls Tryz.prog 53 #[.agg #[.int .i64 t, .bool b, .slice A n c], .int .i64 k0] w fun e w' => e = .returned (.int .i64 (k0 + wtN Entrant.wt xs)) ∧ MineN entrantSh w' S 108 188 A n c (marksN Entrant.mark Entrant.wt k0 xs) ∧ Only S w w' := by
  go_enter Tryz.func53, Tryz.ntmps53
  go_wp2_with fail
  have K0 : Below w.heap.size w (w.alloc (.cells #[.int .i64 t, .bool b, .slice A n c] 32)) := (Below.refl _ _).alloc (Nat.le_refl _) _
  refine (markEntrantS_any S n c A xs k0 _ (hM.next K0) h0 h1 hn).mono ?_
  rintro e w1 ⟨rfl, M1, q1⟩
  go_wp2_with fail
  go_ret
  exact ⟨rfl, M1, (Only.of_below K0).trans q1⟩

theorem markConsole_any (S : Nat → Prop) (t : Int) (b : Bool) (l : Log) (A : Option Addr) (n c : Nat) (xs : List Entrant) (k0 : Int) (w : World) (hM : MineN entrantSh w S 108 188 A n c xs) (h0 : 0 ≤ k0) (h1 : k0 + wtN Entrant.wt xs ≤ 1000000000) (hn : n ≤ 1048576) :
    Calls Tryz.prog 14 #[.agg #[.int .i64 t, .bool b, .slice A n c, .string l.durable, .string l.pending, .int .i64 l.count], .int .i64 k0] w fun e w' => e = .returned (.int .i64 (k0 + wtN Entrant.wt xs)) ∧ MineN entrantSh w' S 108 188 A n c (marksN Entrant.mark Entrant.wt k0 xs) ∧ Only S w w' := by
  go_enter Tryz.func14, Tryz.ntmps14
  go_wp2_with fail
  have K0 : Below w.heap.size w (w.alloc (.cells #[.int .i64 t, .bool b, .slice A n c, .string l.durable, .string l.pending, .int .i64 l.count] 35)) := (Below.refl _ _).alloc (Nat.le_refl _) _
  refine (markRace_any S t b A n c xs k0 _ (hM.next K0) h0 h1 hn).mono ?_
  rintro e w1 ⟨rfl, M1, q1⟩
  go_wp2_with fail
  go_ret
  exact ⟨rfl, M1, (Only.of_below K0).trans q1⟩

theorem heldRace_any (t : Int) (b : Bool) (lo n c : Nat) (A : Option Addr) (xs : List Entrant) (k0 : Int) (w : World) (hx : SeesN entrantSh w lo A n (marksN Entrant.mark Entrant.wt k0 xs)) (h0 : 0 ≤ k0) (h1 : k0 + wtN Entrant.wt xs ≤ 1000000000) (hn : n ≤ 1048576) :
    Calls Tryz.prog 54 #[.agg #[.int .i64 t, .bool b, .slice A n c], .int .i64 k0] w fun e w' => e = .returned (.int .i64 (k0 + wtN Entrant.wt xs)) ∧ Below w.heap.size w w' := by
  go_enter Tryz.func54, Tryz.ntmps54
  go_wp2_with fail
  have K0 : Below w.heap.size w (w.alloc (.cells #[.int .i64 t, .bool b, .slice A n c] 32)) := (Below.refl _ _).alloc (Nat.le_refl _) _
  refine (heldEntrantS_any lo n c A xs k0 _ (hx.next K0) h0 h1 hn).mono ?_
  rintro e w1 ⟨rfl, q1⟩
  have hnn : ¬ (k0 + (wtN Entrant.wt xs : Int) < 0) := by omega
  have K1 := bel_quiet K0 q1
  obtain ⟨q, hq⟩ : ∃ q, (k0 + (wtN Entrant.wt xs : Int)) = q := ⟨_, rfl⟩
  have HQ := Lib.hid hq
  rw [hq] at hnn ⊢
  clear hq
  go_wp2_with fail
  go_ret
  exact ⟨by rw [HQ.out]; rfl, K1⟩

theorem heldConsole_any (t : Int) (b : Bool) (l : Log) (lo n c : Nat) (A : Option Addr) (xs : List Entrant) (k0 : Int) (w : World) (hx : SeesN entrantSh w lo A n (marksN Entrant.mark Entrant.wt k0 xs)) (h0 : 0 ≤ k0) (h1 : k0 + wtN Entrant.wt xs ≤ 1000000000) (hn : n ≤ 1048576) :
    Calls Tryz.prog 15 #[.agg #[.int .i64 t, .bool b, .slice A n c, .string l.durable, .string l.pending, .int .i64 l.count], .int .i64 k0] w fun e w' => e = .returned (.int .i64 (k0 + wtN Entrant.wt xs)) ∧ Below w.heap.size w w' := by
  go_enter Tryz.func15, Tryz.ntmps15
  go_wp2_with fail
  have K0 : Below w.heap.size w (w.alloc (.cells #[.int .i64 t, .bool b, .slice A n c, .string l.durable, .string l.pending, .int .i64 l.count] 35)) := (Below.refl _ _).alloc (Nat.le_refl _) _
  refine (heldRace_any t b lo n c A xs k0 _ (hx.next K0) h0 h1 hn).mono ?_
  rintro e w1 ⟨rfl, q1⟩
  have hnn : ¬ (k0 + (wtN Entrant.wt xs : Int) < 0) := by omega
  have K1 := bel_then K0 q1
  obtain ⟨q, hq⟩ : ∃ q, (k0 + (wtN Entrant.wt xs : Int)) = q := ⟨_, rfl⟩
  have HQ := Lib.hid hq
  rw [hq] at hnn ⊢
  clear hq
  go_wp2_with fail
  go_ret
  exact ⟨by rw [HQ.out]; rfl, K1⟩

end Go.Proofs.YtflpcdffmpfdpaaGreatDoor
