/- Joined texts of this proof: Boxed, Cur, Cur2, CrashL, LogS, LogRs, LogP, CurL. -/
import Derived.Deep.DeepCutAuto
import Derived.IntWalk
import Derived.Laws.BitsAllLaws
import Derived.Laws.IdiomStrings
import Derived.Test.YtflpcdffmpfdpaaGreatDoorB01
import Derived.Test.YtflpcdffmpfdpaaGreatDoorB02
import Derived.Test.YtflpcdffmpfdpaaGreatDoorB20
import Derived.Test.YtflpcdffmpfdpaaGreatDoorB11
import Derived.Test.YtflpcdffmpfdpaaGreatDoorU01
set_option maxRecDepth 100000
set_option maxHeartbeats 8000000
namespace Go.Proofs.YtflpcdffmpfdpaaGreatDoor
open Go.RowKit
theorem jqx {g : Nat} {w w' : World} (h : Only (fun b => b = g) w w') (i : Nat) (u : Value) : Only (fun b => b = g) w (w'.setCell ⟨g, i, none⟩ u) := h.setCell (p := ⟨g, i, none⟩) rfl u
def CodeAt (w : World) (g : Nat) (A : Option Addr) (m : Nat) : Prop :=
  0 < m → ∃ b off, A = some ⟨b, off, none⟩ ∧ b < g ∧ ∀ j, j < m → ∃ u : Int, w.cell? ⟨b, off + j, none⟩ = some (.int .u8 u) ∧ 0 ≤ u ∧ u ≤ 255
theorem CodeAt.only {w w' : World} {g m : Nat} {A : Option Addr} (h : CodeAt w g A m) (hg : g < w.heap.size) {S : Nat → Prop} (ho : Only S w w') (hS : ∀ b, S b → g ≤ b) : CodeAt w' g A m := fun hm => by
  obtain ⟨b, off, h1, h2, h4⟩ := h hm
  refine ⟨b, off, h1, h2, fun j hj => ?_⟩
  obtain ⟨u, h5, h6⟩ := h4 j hj
  exact ⟨u, (jc5 ho (fun hb => by have := hS b hb; omega) (by omega)).trans h5, h6⟩
structure Cur (w : World) (g n : Nat) : Prop where
  ex : ∃ (A : Option Addr) (m c p : Nat) (s : Int), Blk w g 88 [.slice A m c, .int .i64 (p : Int), .int .u64 s] ∧ p ≤ n ∧ m ≤ 1000000 ∧ CodeAt w g A m
theorem Cur.more {w : World} {g n n' : Nat} (h : Cur w g n) (hn : n ≤ n') : Cur w g n' := by
  obtain ⟨A, m, c, p, s, h1, h2, h3⟩ := h.ex
  exact ⟨A, m, c, p, s, h1, by omega, h3⟩
theorem Cur.lt {w : World} {g n : Nat} (h : Cur w g n) : g < w.heap.size := by
  obtain ⟨A, m, c, p, s, h1, _⟩ := h.ex
  exact h1.lt
theorem Cur.next {w w' : World} {g n : Nat} (h : Cur w g n) (hb : Below w.heap.size w w') : Cur w' g n := by
  obtain ⟨A, m, c, p, s, h1, h2, h3, h4⟩ := h.ex
  exact ⟨A, m, c, p, s, h1.next hb, h2, h3, CodeAt.only h4 h1.lt (S := fun _ => False) (.of_below hb) (fun _ h => h.elim)⟩
def Drawn (w : World) (g n hi : Nat) (e : Ending) (w' : World) : Prop := ∃ r : Nat, e = .returned (.int .i64 (r : Int)) ∧ r ≤ hi ∧ Cur w' g n ∧ Only (fun b => b = g) w w'
theorem jsf {w : World} {g n m c p : Nat} {A : Option Addr} {s : Int} (hB : Blk w g 88 [.slice A m c, .int .i64 (p : Int), .int .u64 s]) (hC : CodeAt w g A m) (hp : p ≤ n) (hm : m ≤ 1000000) (q q' : Nat) (s' : Int) :
    Cur ((((w.drewN q).setCell ⟨g, 1, none⟩ (.int .i64 ((p : Int) + 1))).setCell ⟨g, 2, none⟩ (.int .u64 s')).drewN q') g (n + 1) ∧ Only (fun b => b = g) w ((((w.drewN q).setCell ⟨g, 1, none⟩ (.int .i64 ((p : Int) + 1))).setCell ⟨g, 2, none⟩ (.int .u64 s')).drewN q') := by
  have ho : Only (fun b => b = g) w ((((w.drewN q).setCell ⟨g, 1, none⟩ (.int .i64 ((p : Int) + 1))).setCell ⟨g, 2, none⟩ (.int .u64 s')).drewN q') :=
    (jqx (jqx ((Only.refl _ _).quiet (Quiet.mk w q)) 1 _) 2 _).quiet (Quiet.mk _ q')
  refine ⟨⟨A, m, c, p + 1, s', ?_, by omega, hm, CodeAt.only hC hB.lt ho (fun b (hb : b = g) => by omega)⟩, ho⟩
  exact ((hB.drewN q).set_ 1 (.int .i64 ((p : Int) + 1))).set_ 2 (.int .u64 s')
theorem js2 (x : Int) : ∃ r : Nat, wrap64 (bits .and .u64 (IntKind.u64.wrap x / 1099511627776) 255) = (r : Int) ∧ r ≤ 255 := by
  have h0 : IntKind.u64.wrap x = x % 18446744073709551616 := by simp [IntKind.wrap, IntKind.bits, IntKind.signed]
  have h1 : 0 ≤ x % 18446744073709551616 := by omega
  have h2 : x % 18446744073709551616 < 18446744073709551616 := by omega
  rw [h0]
  generalize x % 18446744073709551616 = y at *
  have h3 : 0 ≤ y / 1099511627776 := by omega
  have h4 : y / 1099511627776 < 18446744073709551616 := by omega
  rw [u64_and _ _ h3 h4 (by decide) (by decide)]
  have h5 : (y / 1099511627776).toNat &&& (255 : Int).toNat ≤ 255 := Nat.and_le_right
  refine ⟨_, ?_, h5⟩
  generalize (y / 1099511627776).toNat &&& (255 : Int).toNat = r at *
  unfold wrap64
  omega
theorem jsg (g n : Nat) (w : World) (h : Cur w g n) (hn : n ≤ 1000000) :
    Calls Tryz.prog 104 #[.pointer (some ⟨g, 0, none⟩)] w (Drawn w g (n + 1) 255) := by
  obtain ⟨A, m, c, p, s, hB, hp, hm, hC⟩ := h.ex
  by_cases hlt : p < m
  · obtain ⟨b, off, rfl, hbg, hcell⟩ := hC (by omega)
    have hne : b ≠ g := by omega
    have hb : b < w.heap.size := by have := hB.lt; omega
    obtain ⟨u, hu, u0, u1⟩ := hcell p hlt
    have c0 := hB.cell
    have z0 := hB.frozen
    have hz : ¬ ((p : Int) < 0) := by omega
    have hle : (p : Int) + 1 ≤ (m : Int) := by omega
    have HC := Lib.hid hC
    clear hcell hC
    go_enter Tryz.func104, Tryz.ntmps104
    go_wp2_with fail
    go_quiet (fail)
    go_wp2_with fail
    go_quiet (fail)
    go_wp2_with fail
    go_quiet (fail)
    go_wp2_with fail
    go_ret
    exact ⟨u.toNat, jh3 (by omega), by omega, jsf hB HC.out hp hm _ _ _⟩
  · have c0 := hB.cell
    have z0 := hB.frozen
    have hle : ¬ (p : Int) + 1 ≤ (m : Int) := by omega
    have hlt' : ¬ (p : Int) < (m : Int) := by omega
    have HC := Lib.hid hC
    clear hC hlt
    go_enter Tryz.func104, Tryz.ntmps104
    go_wp2_with fail
    go_quiet (fail)
    go_wp2_with fail
    go_quiet (fail)
    go_wp2_with fail
    go_ret
    obtain ⟨r, hr, hr'⟩ := js2 (IntKind.u64.wrap (IntKind.u64.wrap (s * 6364136223846793005)) + 938938)
    exact ⟨r, jh3 hr, hr', jsf hB HC.out hp hm _ _ _⟩
theorem jqy (k : Int) (g n : Nat) (w : World) (h : Cur w g n) (hn : n ≤ 999000) (h0 : 1 ≤ k) (h1 : k ≤ 1000000000) :
    Calls Tryz.prog 59 #[.pointer (some ⟨g, 0, none⟩), .int .i64 k] w (Drawn w g (n + 2) (k.toNat - 1)) := by
  by_cases hk : k ≤ 1
  · go_enter Tryz.func59, Tryz.ntmps59
    go_wp2_with fail
    go_ret
    exact ⟨0, rfl, Nat.zero_le _, h.more (by omega), Only.refl _ _⟩
  · go_enter Tryz.func59, Tryz.ntmps59
    go_wp2_with fail
    refine (jsg g n w h (by omega)).mono ?_
    rintro e w1 ⟨r, rfl, hr, c1, o1⟩
    have e1 : (r : Int) % k < k := Int.emod_lt_of_pos _ (by omega)
    have e0 : 0 ≤ (r : Int) % k := Int.emod_nonneg _ (by omega)
    by_cases hk2 : 200 < k
    · go_wp2_with fail
      refine (jsg g (n + 1) w1 c1 (by omega)).mono ?_
      rintro e w2 ⟨r2, rfl, hr2, c2, o2⟩
      have f1 : ((r : Int) * 256 + (r2 : Int)) % k < k := Int.emod_lt_of_pos _ (by omega)
      have f0 : 0 ≤ ((r : Int) * 256 + (r2 : Int)) % k := Int.emod_nonneg _ (by omega)
      go_wp2_with fail
      go_ret
      exact ⟨(((r : Int) * 256 + (r2 : Int)) % k).toNat, jh3 (by omega), by omega, c2, o1.trans o2⟩
    · go_wp2_with fail
      go_ret
      exact ⟨((r : Int) % k).toNat, jh3 (by omega), by omega, c1.more (by omega), o1⟩
def DrawnB (w : World) (g n : Nat) (e : Ending) (w' : World) : Prop := ∃ b : Bool, e = .returned (.bool b) ∧ Cur w' g n ∧ Only (fun b => b = g) w w'
def jsx (w : World) (g n : Nat) (P : ByteArray → Prop) (e : Ending) (w' : World) : Prop := ∃ s, e = .returned (.string s) ∧ P s ∧ Cur w' g n ∧ Only (fun b => b = g) w w'
def DrawnI (w : World) (g n : Nat) (P : Int → Prop) (e : Ending) (w' : World) : Prop := ∃ s, e = .returned (.int .i64 s) ∧ P s ∧ Cur w' g n ∧ Only (fun b => b = g) w w'
theorem jq7 (k : Int) (g n : Nat) (w : World) (h : Cur w g n) (hn : n ≤ 999000) (h0 : 1 ≤ k) (h1 : k ≤ 1000000000) :
    Calls Tryz.prog 61 #[.pointer (some ⟨g, 0, none⟩), .int .i64 k] w (DrawnB w g (n + 2)) := by
  go_enter Tryz.func61, Tryz.ntmps61
  go_wp2_with fail
  refine (jqy k g n w h hn h0 h1).mono ?_
  rintro e w1 ⟨r, rfl, hr, c1, o1⟩
  go_wp2_with fail
  go_ret
  exact ⟨_, rfl, c1, o1⟩
theorem jrj (g n b m : Nat) (t : TypeId) (L : List ByteArray) (w : World) (hB : Blk w b t (L.map Value.string)) (hne : b ≠ g) (h : Cur w g n) (hn : n ≤ 999000) (hL : L.length = m) (h0 : 1 ≤ m) (h1 : m ≤ 1000) :
    Calls Tryz.prog 107 #[.pointer (some ⟨g, 0, none⟩), .slice (some ⟨b, 0, none⟩) m m] w (jsx w g (n + 2) (· ∈ L)) := by
  have HL := Lib.hid hL
  clear hL
  go_enter Tryz.func107, Tryz.ntmps107
  go_wp2_with fail
  refine (jqy m g n w h hn (by omega) (by omega)).mono ?_
  rintro e w1 ⟨r, rfl, hr, c1, o1⟩
  have hr1 : r < m := by simp at hr; omega
  have hr2 : (r : Int) < (m : Int) := by omega
  have hr3 : r < L.length := by rw [HL.out]; exact hr1
  have hc : w1.cell? ⟨b, r, none⟩ = some (.string L[r]) := by
    rw [(hB.only o1 hne).cell r, List.getElem?_map, List.getElem?_eq_getElem hr3]; rfl
  clear hr
  go_wp2_with fail
  go_ret
  exact ⟨_, rfl, List.getElem_mem hr3, c1, o1⟩
theorem jq2 (g n b m : Nat) (t : TypeId) (L : List Int) (w : World) (hB : Blk w b t (jb4 L)) (hne : b ≠ g) (h : Cur w g n) (hn : n ≤ 999000) (hL : L.length = m) (h0 : 1 ≤ m) (h1 : m ≤ 1000) :
    Calls Tryz.prog 58 #[.pointer (some ⟨g, 0, none⟩), .slice (some ⟨b, 0, none⟩) m m] w (DrawnI w g (n + 2) (· ∈ L)) := by
  have HL := Lib.hid hL
  clear hL
  go_enter Tryz.func58, Tryz.ntmps58
  go_wp2_with fail
  refine (jqy m g n w h hn (by omega) (by omega)).mono ?_
  rintro e w1 ⟨r, rfl, hr, c1, o1⟩
  have hr1 : r < m := by simp at hr; omega
  have hr2 : (r : Int) < (m : Int) := by omega
  have hr3 : r < L.length := by rw [HL.out]; exact hr1
  have hc : w1.cell? ⟨b, r, none⟩ = some (.int .i64 L[r]) := by
    rw [(hB.only o1 hne).cell r]
    exact jqe L r hr3
  clear hr
  go_wp2_with fail
  go_ret
  exact ⟨_, rfl, List.getElem_mem hr3, c1, o1⟩
theorem jrx (t x : ByteArray) (g n : Nat) (w : World) (h : Cur w g n) (hn : n ≤ 990000) (ht : t.size ≤ 1000000) (hx : 1 ≤ x.size) (hx1 : x.size ≤ 1000) :
    Calls Tryz.prog 72 #[.pointer (some ⟨g, 0, none⟩), .string t, .string x] w (jsx w g (n + 6) (fun s => s.size ≤ t.size + 1)) := by
  have hx2 : ¬ (x.size : Int) < 1 := by omega
  by_cases h0 : t = ByteArray.empty
  · subst h0
    go_enter Tryz.func72, Tryz.ntmps72
    go_wp2_with fail
    go_ret
    exact ⟨_, rfl, by simp; omega, h.more (by omega), Only.refl _ _⟩
  · have hts : 0 < t.size := by
      rcases Nat.eq_zero_or_pos t.size with h1 | h1
      · exact absurd (by simpa using h1) h0
      · exact h1
    have hb : (t.toList == ByteArray.empty.toList) = false := by rw [jcc, decide_eq_false h0]
    have hb2 : t.toList.isEmpty = false := by
      cases hh : t.toList with
      | nil => exact absurd (by have := jcc t ByteArray.empty; rw [hh] at this; simpa using this) h0
      | cons a l => rfl
    clear h0
    go_enter Tryz.func72, Tryz.ntmps72
    go_wp2_with fail
    refine (jqy t.size g n w h (by omega) (by omega) (by omega)).mono ?_
    rintro e w1 ⟨r, rfl, hr, c1, o1⟩
    have hr1 : r < t.size := by simp at hr; omega
    clear hr
    go_wp2_with fail
    refine (jqy x.size g _ w1 c1 (by omega) (by omega) (by omega)).mono ?_
    rintro e w2 ⟨j, rfl, hj, c2, o2⟩
    have hj1 : j < x.size := by simp at hj; omega
    clear hj
    go_wp2_with fail
    have hy : ((x.extract j x.size).extract 0 1).size ≤ 1 := by simp; omega
    generalize (x.extract j x.size).extract 0 1 = y at *
    refine (jqy 3 g _ w2 c2 (by omega) (by omega) (by omega)).mono ?_
    rintro e w3 ⟨q, rfl, hq, c3, o3⟩
    have o4 := (o1.trans o2).trans o3
    have e1 : (t.extract 0 r).size = r := by simp; omega
    have e2 : (t.extract r t.size).size = t.size - r := by simp
    have e3 : (t.extract (r + 1) t.size).size = t.size - (r + 1) := by simp
    have E1 := Lib.hid e1
    have E2 := Lib.hid e2
    have E3 := Lib.hid e3
    have f1 : ¬ 9223372036854775807 < r + y.size := by omega
    have f2 : ¬ 9223372036854775807 < r + y.size + (t.size - r) := by omega
    have f3 : ¬ 9223372036854775807 < r + y.size + (t.size - (r + 1)) := by omega
    have f4 : ¬ 9223372036854775807 < r + (t.size - (r + 1)) := by omega
    have hr2 : r ≤ t.size := by omega
    have hr3 : (r : Int) ≤ (t.size : Int) := by omega
    have hr4 : (r : Int) + 1 ≤ (t.size : Int) := by omega
    clear e1 e2 e3
    have hq3 : q = 0 ∨ q = 1 ∨ q = 2 := by simp at hq; omega
    clear hq
    rcases hq3 with rfl | rfl | rfl
    · go_wp2_with fail
      go_quiet (fail)
      go_wp2_with fail
      go_ret
      exact ⟨_, rfl, by show _ ≤ _; rw [ByteArray.size_append, ByteArray.size_append, E1.out, E2.out]; omega, c3.next ((Quiet.mk _ _).below _), o4.quiet (Quiet.mk _ _)⟩
    · go_wp2_with fail
      go_quiet (fail)
      go_wp2_with fail
      go_ret
      exact ⟨_, rfl, by show _ ≤ _; rw [ByteArray.size_append, ByteArray.size_append, E1.out, E3.out]; omega, c3.next ((Quiet.mk _ _).below _), o4.quiet (Quiet.mk _ _)⟩
    · go_wp2_with fail
      go_quiet (fail)
      go_wp2_with fail
      go_ret
      exact ⟨_, rfl, by show _ ≤ _; rw [ByteArray.size_append, E1.out, E3.out]; omega, c3.next ((Quiet.mk _ _).below _), o4.quiet (Quiet.mk _ _)⟩
theorem jsr (s : ByteArray) (w : World) (g cap : Nat) (hw : ∀ i (h : i < s.size), w.cell? ⟨g, i, none⟩ = some (.int .u8 (s[i].toNat : Int))) :
    (convert 47 9 (.slice (some ⟨g, 0, none⟩) s.size cap)).run Tryz.prog w = .ok (.string s) w := by
  have hd : s.data.toList.length = s.size := Array.length_toList
  have hb := run_convert_bytes_back (P := Tryz.prog) w 47 9 5 ⟨g, 0, none⟩ cap s.data.toList Tryz.underlying47 Tryz.underlying5 Tryz.underlying9 (fun j hj => by
    have hadd : (⟨g, 0, none⟩ : Addr).add j = ⟨g, j, none⟩ := by unfold Addr.add; split <;> simp_all
    rw [hadd, hw j (by omega)]
    rfl)
  rw [hd] at hb
  exact hb
def jre (l : Log) : List LogRecord × Bool := if ja9 l then ((allR (l.durable ++ l.pending)).l, true) else ([], false)
def jsy (w : World) (R : List LogRecord × Bool) (e : Ending) (w' : World) : Prop := ∃ (A : Option Addr) (c : Nat), e = .returned (.tuple #[.slice A R.1.length c, .bool R.2]) ∧ w'.ownsRow w.heap.size 69 2 (.slice A R.1.length c) R.1.length (R.1.flatMap LogRecord.enc) ∧ Below w.heap.size w w'
theorem jrr (l : Log) (w : World) (hs : l.upto 1048576) (hg : Gl w) :
    Calls Tryz.prog 37 #[.agg #[l.durable, l.pending, l.count]] w (jsy w (jre l)) := by
  have ⟨h1, h2⟩ := hs
  have zs : (l.durable ++ l.pending).size = l.durable.size + l.pending.size := ByteArray.size_append
  have fs : ¬ 9223372036854775807 < l.durable.size + l.pending.size := by omega
  have K0 := nB w (.cells #[l.durable, l.pending, l.count] 33)
  have B0 := nP w [l.durable, l.pending, l.count] 33
  cases hv : ja9 l
  · have HR := Lib.hid (show jre l = ([], false) by simp [jre, hv])
    have HV := Lib.hid hv
    clear hv
    go_enter Tryz.func37, Tryz.ntmps37
    go_wp2_with fail
    refine (jch l _ hs (hg.next K0)).mono ?_
    rintro e w1 ⟨rfl, b1⟩
    rw [HV.out]
    have K1 := jaa K0 b1
    go_wp2_with fail
    go_ret2
    rw [HR.out]
    exact ⟨none, 0, rfl, World.ownsRow_nil _ _ _ _, K1⟩
  · have HR := Lib.hid (show jre l = ((allR (l.durable ++ l.pending)).l, true) by simp [jre, hv])
    have HV := Lib.hid hv
    clear hv
    go_enter Tryz.func37, Tryz.ntmps37
    go_wp2_with fail
    refine (jch l _ hs (hg.next K0)).mono ?_
    rintro e w1 ⟨rfl, b1⟩
    rw [HV.out]
    have K1 := jaa K0 b1
    have B1 := B0.next b1
    have c1 := B1.cell
    go_wp2_with fail
    refine (jhz (l.durable ++ l.pending) _ (by omega) (hg.next K1)).mono ?_
    rintro e w2 ⟨A, B, c, d, rfl, hA, hB, b2⟩
    have K2 := jaa K1 b2
    go_wp2_with fail
    go_ret2
    rw [HR.out]
    exact ⟨_, _, rfl, jax hA K1.size, K2⟩
theorem jtq (k : Nat) {s : ByteArray} (h : s.size = 0) : jbn k s = none := by
  cases g : jbn k s with
  | none => rfl
  | some r =>
    obtain ⟨e, n⟩ := r
    have h1 := (jbv g).2.2.2.2
    have h2 := (jio g).1
    omega
theorem jsi {s t : ByteArray} {e : LogRecord} : ∀ (f : Nat) (x : Recs), x.at_ ≤ s.size → (jjb s f x).at_ = s.size → jbn (jjb s f x).l.length t = some (e, t.size) → (jjb s f x).l.length < x.l.length + f →
    jjb (s ++ t) f x = ⟨(jjb s f x).l ++ [e], (jjb s f x).ends ++ [s.size + t.size], s.size + t.size⟩
  | 0, x, _, _, _, h => by
    have h1 : x.l.length < x.l.length + 0 := h
    omega
  | f + 1, x, hp, ha, hn, hf => by
    cases g : jbn x.l.length (s.extract x.at_ s.size) with
    | none =>
      rw [jbs g] at ha hn ⊢
      have g2 : jbn x.l.length ((s ++ t).extract x.at_ (s ++ t).size) = some (e, t.size) := by
        have h0 : s.extract s.size s.size = ByteArray.empty := by simp
        rw [jls hp, ha, h0, ByteArray.empty_append]
        exact hn
      rw [jce g2, ha]
      exact jbs (jtq _ (by simp)) f
    | some r =>
      obtain ⟨e', n⟩ := r
      have h1 := (jbv g).2.2.2.2
      have h2 : (s.extract x.at_ s.size).size = s.size - x.at_ := by simp
      have g2 : jbn x.l.length ((s ++ t).extract x.at_ (s ++ t).size) = some (e', n) := by rw [jls hp]; exact jn7 g
      rw [jce g] at ha hn hf ⊢
      rw [jce g2]
      exact jsi f _ (by show x.at_ + n ≤ s.size; omega) ha hn (by simp only [List.length_append, List.length_singleton]; omega)
theorem jsz {s t : ByteArray} {e : LogRecord} (ha : (allR s).at_ = s.size) (hn : jbn (allR s).l.length t = some (e, t.size)) (hl : (allR s).l.length < 60) :
    allR (s ++ t) = ⟨(allR s).l ++ [e], (allR s).ends ++ [s.size + t.size], s.size + t.size⟩ := by
  have h := jsi (s := s) (t := t) (e := e) 61 ⟨[], [0], 0⟩ (Nat.zero_le _) (by rw [jdo]; exact ha) (by rw [jdo]; exact hn) (by rw [jdo]; show _ < 0 + 61; omega)
  rw [jdo, jdo] at h
  exact h
theorem jtk {k : Nat} {e : LogRecord} (h : jgb e = true) : jde 10 (jfz (jd9 k e)) = false := by
  obtain ⟨_, _, h3, h4, _⟩ := jdn h
  unfold jfz jd9
  simp only [jh1, jke 10 _ (by decide), jnn h3 10 (by decide), jnn h4 10 (by decide)]
  decide
theorem jtf {k : Nat} {e : LogRecord} (h : jgb e = true) : upto 10 (jck k e) = jfz (jd9 k e) ∧ jde 10 (jck k e) = true := by
  have h1 := je6 (q := ⟨#[]⟩) (jtk (k := k) h)
  have h2 : jck k e = jfz (jd9 k e) ++ ⟨#[10]⟩ ++ ⟨#[]⟩ := by
    show _ = _ ++ ByteArray.empty
    rw [ByteArray.append_empty]; rfl
  rw [h2]
  exact ⟨h1.1, h1.2.2⟩
theorem js7 {k : Nat} {e : LogRecord} (h : jgb e = true) (hk : k < 60) : jbn k (jck k e) = some (e, (jck k e).size) := by
  obtain ⟨h1, h2⟩ := jtf (k := k) h
  unfold jbn
  rw [if_pos ⟨h2, hk⟩, h1, okR_of h rfl]
  have h3 : (jck k e).size = (jfz (jd9 k e)).size + 1 := by unfold jck; rw [ByteArray.size_append]; rfl
  rw [h3]; rfl
theorem jrq {l : Log} (h : ja9 l = true) : (allR (l.durable ++ l.pending)).at_ = (l.durable ++ l.pending).size ∧ (allR l.durable).at_ = l.durable.size ∧ ((allR (l.durable ++ l.pending)).l.length : Int) = l.count := by
  unfold ja9 at h
  simp only [Bool.and_eq_true, decide_eq_true_eq] at h
  rw [ByteArray.size_append]
  exact ⟨h.1.1, h.1.2, h.2⟩
theorem jtj {l : Log} (h1 : (allR (l.durable ++ l.pending)).at_ = (l.durable ++ l.pending).size) (h2 : (allR l.durable).at_ = l.durable.size) (h3 : ((allR (l.durable ++ l.pending)).l.length : Int) = l.count) : ja9 l = true := by
  rw [ByteArray.size_append] at h1
  unfold ja9
  rw [decide_eq_true h1, decide_eq_true h2, decide_eq_true h3]
  rfl
theorem js0 {l : Log} {e : LogRecord} (hv : ja9 l = true) (he : jgb e = true) (hc : l.count ≠ 60) :
    ja9 ⟨l.durable, l.pending ++ jck l.count.toNat e, l.count + 1⟩ = true ∧ (allR (l.durable ++ (l.pending ++ jck l.count.toNat e))).l = (allR (l.durable ++ l.pending)).l ++ [e]
      ∧ (allR (l.durable ++ (l.pending ++ jck l.count.toNat e))).at_ = (l.durable ++ (l.pending ++ jck l.count.toNat e)).size := by
  obtain ⟨h1, h2, h3⟩ := jrq hv
  obtain ⟨h4, h5, _⟩ := jg4 hv
  have hk : (allR (l.durable ++ l.pending)).l.length = l.count.toNat := by omega
  have hp := jsz (s := l.durable ++ l.pending) (t := jck l.count.toNat e) (e := e) h1 (by rw [hk]; exact js7 he (by omega)) (by omega)
  rw [ByteArray.append_assoc] at hp
  have hz : (l.durable ++ (l.pending ++ jck l.count.toNat e)).size = (l.durable ++ l.pending).size + (jck l.count.toNat e).size := by
    rw [← ByteArray.append_assoc, ByteArray.size_append]
  refine ⟨jtj ?_ h2 ?_, by rw [hp], by rw [hp, hz]⟩
  · show (allR (l.durable ++ (l.pending ++ jck l.count.toNat e))).at_ = (l.durable ++ (l.pending ++ jck l.count.toNat e)).size
    rw [hp, hz]
  · show ((allR (l.durable ++ (l.pending ++ jck l.count.toNat e))).l.length : Int) = l.count + 1
    rw [hp]
    simp only [List.length_append, List.length_singleton]
    omega
theorem jqw {S : Nat → Prop} {a w : World} (h : Only S a w) {p : Addr} (hp : a.heap.size ≤ p.block) (u : Value) : Only S a (w.setCell p u) :=
  ⟨h.os, h.tape, h.output, by simpa [World.setCell] using h.size, fun k hk hS => (Below.heap_setCell _ _ _ _ (fun e => by omega)).trans (h.block k hk hS)⟩
theorem Cur.keep {w w' : World} {g n : Nat} {S : Nat → Prop} (h : Cur w g n) (ho : Only S w w') (hg : ¬ S g) (hS : ∀ b, S b → g ≤ b) : Cur w' g n := by
  obtain ⟨A, m, c, p, s, h1, h2, h3, h4⟩ := h.ex
  exact ⟨A, m, c, p, s, h1.only ho hg, h2, h3, CodeAt.only h4 h1.lt ho hS⟩
def DrawnR (w : World) (g n : Nat) (e : Ending) (w' : World) : Prop := ∃ x : LogRecord, e = .returned (.agg #[x.command, x.reply]) ∧ x.upto 20 ∧ Cur w' g n ∧ Only (fun b => b = g) w w'
theorem texts1 : ∀ s ∈ ([⟨#[99, 111, 117, 110, 116]⟩, ⟨#[115, 111, 114, 116, 32, 109, 101, 114, 103, 101]⟩, ⟨#[120]⟩, ⟨#[115, 101, 108, 101, 99, 116, 32, 50]⟩, ⟨#[48, 32, 49]⟩] : List ByteArray), s.size ≤ 20 := by decide
theorem texts2 : ∀ s ∈ ([⟨#[]⟩, ⟨#[51]⟩, ⟨#[63]⟩, ⟨#[97, 64, 98]⟩, ⟨#[51, 32, 49, 32, 50]⟩] : List ByteArray), s.size ≤ 20 := by decide
theorem texts3 : ∀ s ∈ ([⟨#[]⟩, ⟨#[97, 64, 98]⟩, ⟨#[97, 35]⟩, ⟨#[10]⟩, ⟨#[0, 0, 0]⟩] : List ByteArray), s.size ≤ 20 := by decide
theorem texts4 : ∀ s ∈ ([⟨#[35]⟩, ⟨#[10]⟩, ⟨#[127]⟩] : List ByteArray), s.size ≤ 20 := by decide
theorem jrd (g n : Nat) (w : World) (h : Cur w g n) (hn : n ≤ 900000) :
    Calls Tryz.prog 62 #[.pointer (some ⟨g, 0, none⟩)] w (DrawnR w g (n + 8)) := by
  have hg := h.lt
  have U1 := nB2 w (.cells #[.string ⟨#[]⟩, .string ⟨#[]⟩] 69) (.cells #[.string ⟨#[99, 111, 117, 110, 116]⟩, .string ⟨#[115, 111, 114, 116, 32, 109, 101, 114, 103, 101]⟩, .string ⟨#[120]⟩, .string ⟨#[115, 101, 108, 101, 99, 116, 32, 50]⟩, .string ⟨#[48, 32, 49]⟩] 9)
  have R1 := nPa w [.string ⟨#[]⟩, .string ⟨#[]⟩] 69 (.cells #[.string ⟨#[99, 111, 117, 110, 116]⟩, .string ⟨#[115, 111, 114, 116, 32, 109, 101, 114, 103, 101]⟩, .string ⟨#[120]⟩, .string ⟨#[115, 101, 108, 101, 99, 116, 32, 50]⟩, .string ⟨#[48, 32, 49]⟩] 9)
  have B1 : Blk ((w.alloc (.cells #[.string ⟨#[]⟩, .string ⟨#[]⟩] 69)).alloc (.cells #[.string ⟨#[99, 111, 117, 110, 116]⟩, .string ⟨#[115, 111, 114, 116, 32, 109, 101, 114, 103, 101]⟩, .string ⟨#[120]⟩, .string ⟨#[115, 101, 108, 101, 99, 116, 32, 50]⟩, .string ⟨#[48, 32, 49]⟩] 9)) (w.heap.size + 1) 9 (([⟨#[99, 111, 117, 110, 116]⟩, ⟨#[115, 111, 114, 116, 32, 109, 101, 114, 103, 101]⟩, ⟨#[120]⟩, ⟨#[115, 101, 108, 101, 99, 116, 32, 50]⟩, ⟨#[48, 32, 49]⟩] : List ByteArray).map Value.string) := Blk.at_ (by simp)
  go_enter Tryz.func62, Tryz.ntmps62
  go_wp2_with fail
  refine (jrj g n (w.heap.size + 1) 5 _ [⟨#[99, 111, 117, 110, 116]⟩, ⟨#[115, 111, 114, 116, 32, 109, 101, 114, 103, 101]⟩, ⟨#[120]⟩, ⟨#[115, 101, 108, 101, 99, 116, 32, 50]⟩, ⟨#[48, 32, 49]⟩] _ B1 (by omega) (h.next U1) (by omega) rfl (by decide) (by decide)).mono ?_
  rintro e w1 ⟨s1, rfl, m1, c1, o1⟩
  have z1 := texts1 s1 m1
  clear m1
  have O1 : Only (fun b => b = g) w w1 := (Only.of_below U1).trans o1
  have R2 := R1.only o1 (fun (h : _ = _) => by omega)
  have lt2 := R2.lt
  clear U1 R1 B1
  have U2 := nB w1 (.cells #[.string ⟨#[]⟩, .string ⟨#[51]⟩, .string ⟨#[63]⟩, .string ⟨#[97, 64, 98]⟩, .string ⟨#[51, 32, 49, 32, 50]⟩] 9)
  have B2 : Blk (w1.alloc (.cells #[.string ⟨#[]⟩, .string ⟨#[51]⟩, .string ⟨#[63]⟩, .string ⟨#[97, 64, 98]⟩, .string ⟨#[51, 32, 49, 32, 50]⟩] 9)) w1.heap.size 9 (([⟨#[]⟩, ⟨#[51]⟩, ⟨#[63]⟩, ⟨#[97, 64, 98]⟩, ⟨#[51, 32, 49, 32, 50]⟩] : List ByteArray).map Value.string) := Blk.at_ rfl
  go_wp2_with fail
  refine (jrj g _ w1.heap.size 5 _ [⟨#[]⟩, ⟨#[51]⟩, ⟨#[63]⟩, ⟨#[97, 64, 98]⟩, ⟨#[51, 32, 49, 32, 50]⟩] _ B2 (by have := c1.lt; omega) (c1.next U2) (by omega) rfl (by decide) (by decide)).mono ?_
  rintro e w2 ⟨s2, rfl, m2, c2, o2⟩
  have z2 := texts2 s2 m2
  clear m2
  have O2 : Only (fun b => b = g) w w2 := (O1.then_ U2).trans o2
  have R3 := (R2.next U2).only o2 (fun (h : _ = _) => by omega)
  have lt3 := R3.lt
  clear U2 B2 R2
  go_wp2_with fail
  have U3 := nB w2 (.cells #[s1, s2] 69)
  have E3 := nP w2 [s1, s2] 69
  refine (jqy 24 g _ _ (c2.next U3) (by omega) (by omega) (by omega)).mono ?_
  rintro e w3 ⟨q, rfl, hq, c3, o3⟩
  have O3 : Only (fun b => b = g) w w3 := (O2.then_ U3).trans o3
  have cl := c2.lt
  have E4 := E3.only o3 (fun (h : _ = _) => by omega)
  have R4 := (R3.next U3).only o3 (fun (h : _ = _) => by omega)
  have lt4 := R4.lt
  have le4 := E4.lt
  have hne : w.heap.size ≠ w2.heap.size := by omega
  have hne' : w2.heap.size ≠ w.heap.size := by omega
  clear U3 E3 R3
  by_cases q0 : q = 0
  · subst q0
    have hmk : Sem.run Tryz.prog (Instr.makeSlice 47 (Value.int IntKind.i64 3) (Value.int IntKind.i64 3)) w3 = .ok (.slice (some ⟨w3.heap.size, 0, none⟩) 3 3) (w3.alloc (.cells #[.int .u8 0, .int .u8 0, .int .u8 0] 5)) := by kernel_rfl
    have hcv := jsr ⟨#[0, 0, 0]⟩ (w3.alloc (.cells #[.int .u8 0, .int .u8 0, .int .u8 0] 5)) w3.heap.size 3 (fun i hi => by
      rw [((Blk.at_ rfl : Blk (w3.alloc (.cells #[.int .u8 0, .int .u8 0, .int .u8 0] 5)) w3.heap.size 5 [.int .u8 0, .int .u8 0, .int .u8 0])).cell i]
      have hi3 : i < 3 := hi
      have h3 : i = 0 ∨ i = 1 ∨ i = 2 := by omega
      rcases h3 with rfl | rfl | rfl <;> rfl)
    have hcv' : Sem.run Tryz.prog (convert 47 9 (.slice (some ⟨w3.heap.size, 0, none⟩) 3 3)) (w3.alloc (.cells #[.int .u8 0, .int .u8 0, .int .u8 0] 5)) = .ok (.string ⟨#[0, 0, 0]⟩) (w3.alloc (.cells #[.int .u8 0, .int .u8 0, .int .u8 0] 5)) := hcv
    clear hcv
    have U4 := nB2 w3 (.cells #[.int .u8 0, .int .u8 0, .int .u8 0] 5) (.cells #[.string ⟨#[]⟩, .string ⟨#[97, 64, 98]⟩, .string ⟨#[97, 35]⟩, .string ⟨#[10]⟩, .string ⟨#[0, 0, 0]⟩] 9)
    have B4 : Blk ((w3.alloc (.cells #[.int .u8 0, .int .u8 0, .int .u8 0] 5)).alloc (.cells #[.string ⟨#[]⟩, .string ⟨#[97, 64, 98]⟩, .string ⟨#[97, 35]⟩, .string ⟨#[10]⟩, .string ⟨#[0, 0, 0]⟩] 9)) (w3.heap.size + 1) 9 (([⟨#[]⟩, ⟨#[97, 64, 98]⟩, ⟨#[97, 35]⟩, ⟨#[10]⟩, ⟨#[0, 0, 0]⟩] : List ByteArray).map Value.string) := Blk.at_ (by simp)
    go_wp2_with fail
    refine (jrj g _ (w3.heap.size + 1) 5 _ [⟨#[]⟩, ⟨#[97, 64, 98]⟩, ⟨#[97, 35]⟩, ⟨#[10]⟩, ⟨#[0, 0, 0]⟩] _ B4 (by have := c3.lt; omega) (c3.next U4) (by omega) rfl (by decide) (by decide)).mono ?_
    rintro e w4 ⟨s4, rfl, m4, c4, o4⟩
    have z4 := texts3 s4 m4
    clear m4
    have O4 : Only (fun b => b = g) w w4 := (O3.then_ U4).trans o4
    have E5 := (E4.next U4).only o4 (fun (h : _ = _) => by omega)
    have R5 := (R4.next U4).only o4 (fun (h : _ = _) => by omega)
    have e5 := E5.cell
    have e5f := E5.frozen
    have r5 := R5.cell
    have r5f := R5.frozen
    clear U4 B4 hmk hcv'
    go_wp2_with fail
    refine bodyPost_ret (v := .agg #[s4, s2]) (by simp [results, Tryz.results62, go_sem, r5]) rfl ⟨⟨s4, s2⟩, rfl, ⟨z4, z2⟩, ?_, ?_⟩
    · exact (c4.keep (S := fun b => b = w2.heap.size ∨ b = w.heap.size) (((Only.refl _ _).setCell (p := ⟨w2.heap.size, 0, none⟩) (.inl rfl) _).setCell (p := ⟨w.heap.size, 0, none⟩) (.inr rfl) _ |>.setCell (p := ⟨w.heap.size, 1, none⟩) (.inr rfl) _) (by omega) (fun b hb => by omega)).more (by omega)
    · exact jqw (jqw (jqw O4 (p := ⟨w2.heap.size, 0, none⟩) (Nat.le_of_lt (by show w.heap.size < _; omega)) _) (p := ⟨w.heap.size, 0, none⟩) (Nat.le_refl _) _) (p := ⟨w.heap.size, 1, none⟩) (Nat.le_refl _) _
  have d0 : ((q : Int) == 0) = false := beq_eq_false_iff_ne.2 (by omega)
  by_cases q1 : q = 1
  · subst q1
    have U4 := nB w3 (.cells #[.string ⟨#[35]⟩, .string ⟨#[10]⟩, .string ⟨#[127]⟩] 9)
    have B4 : Blk (w3.alloc (.cells #[.string ⟨#[35]⟩, .string ⟨#[10]⟩, .string ⟨#[127]⟩] 9)) w3.heap.size 9 (([⟨#[35]⟩, ⟨#[10]⟩, ⟨#[127]⟩] : List ByteArray).map Value.string) := Blk.at_ rfl
    go_wp2_with fail
    refine (jrj g _ w3.heap.size 3 _ [⟨#[35]⟩, ⟨#[10]⟩, ⟨#[127]⟩] _ B4 (by have := c3.lt; omega) (c3.next U4) (by omega) rfl (by decide) (by decide)).mono ?_
    rintro e w4 ⟨s4, rfl, m4, c4, o4⟩
    have z4 := texts4 s4 m4
    clear m4
    have O4 : Only (fun b => b = g) w w4 := (O3.then_ U4).trans o4
    have E5 := (E4.next U4).only o4 (fun (h : _ = _) => by omega)
    have R5 := (R4.next U4).only o4 (fun (h : _ = _) => by omega)
    have e5 := E5.cell
    have e5f := E5.frozen
    have r5 := R5.cell
    have r5f := R5.frozen
    clear U4 B4
    go_wp2_with fail
    refine bodyPost_ret (v := .agg #[s1, s4]) (by simp [results, Tryz.results62, go_sem, r5]) rfl ⟨⟨s1, s4⟩, rfl, ⟨z1, z4⟩, ?_, ?_⟩
    · exact (c4.keep (S := fun b => b = w2.heap.size ∨ b = w.heap.size) (((Only.refl _ _).setCell (p := ⟨w2.heap.size, 1, none⟩) (.inl rfl) _).setCell (p := ⟨w.heap.size, 0, none⟩) (.inr rfl) _ |>.setCell (p := ⟨w.heap.size, 1, none⟩) (.inr rfl) _) (by omega) (fun b hb => by omega)).more (by omega)
    · exact jqw (jqw (jqw O4 (p := ⟨w2.heap.size, 1, none⟩) (Nat.le_of_lt (by show w.heap.size < _; omega)) _) (p := ⟨w.heap.size, 0, none⟩) (Nat.le_refl _) _) (p := ⟨w.heap.size, 1, none⟩) (Nat.le_refl _) _
  have d1 : ((q : Int) == 1) = false := beq_eq_false_iff_ne.2 (by omega)
  have e4 := E4.cell
  have r4 := R4.cell
  have r4f := R4.frozen
  go_wp2_with fail
  refine bodyPost_ret (v := .agg #[s1, s2]) (by simp [results, Tryz.results62, go_sem, r4]) rfl ⟨⟨s1, s2⟩, rfl, ⟨z1, z2⟩, ?_, ?_⟩
  · exact (c3.keep (S := fun b => b = w.heap.size) (jqx (jqx (Only.refl _ _) 0 _) 1 _) (by omega) (fun b hb => by omega)).more (by omega)
  · exact jqw (jqw O3 (p := ⟨w.heap.size, 0, none⟩) (Nat.le_refl _) _) (p := ⟨w.heap.size, 1, none⟩) (Nat.le_refl _) _
end Go.Proofs.YtflpcdffmpfdpaaGreatDoor
