/- Joined texts of this proof: Boxed, Cur, Cur2, CrashL, LogS, LogRs, LogP. -/
import Derived.Deep.DeepCutAuto
import Derived.IntWalk
import Derived.Laws.BitsAllLaws
import Derived.Laws.IdiomStrings
import Derived.Test.YtflpcdffmpfdpaaGreatDoorB01
import Derived.Test.YtflpcdffmpfdpaaGreatDoorB02
import Derived.Test.YtflpcdffmpfdpaaGreatDoorB20
import Derived.Test.YtflpcdffmpfdpaaGreatDoorB11
import Derived.Test.YtflpcdffmpfdpaaGreatDoorV01
set_option maxRecDepth 100000
set_option maxHeartbeats 8000000
namespace Go.Proofs.YtflpcdffmpfdpaaGreatDoor
open Go.RowKit
theorem jqw {g : Nat} {w w' : World} (h : Only (fun b => b = g) w w') (i : Nat) (u : Value) : Only (fun b => b = g) w (w'.setCell ⟨g, i, none⟩ u) := h.setCell (p := ⟨g, i, none⟩) rfl u
def CodeAt (w : World) (g : Nat) (A : Option Addr) (m : Nat) : Prop :=
 0 < m → ∃ b off, A = some ⟨b, off, none⟩ ∧ b < g ∧ ∀ j, j < m → ∃ u : Int, w.cell? ⟨b, off + j, none⟩ = some (.int .u8 u) ∧ 0 ≤ u ∧ u ≤ 255
theorem CodeAt.only {w w' : World} {g m : Nat} {A : Option Addr} (h : CodeAt w g A m) (hg : g < w.heap.size) {S : Nat → Prop} (ho : Only S w w') (hS : ∀ b, S b → g ≤ b) : CodeAt w' g A m := fun hm => by
 obtain ⟨b, off, h1, h2, h4⟩ := h hm
 refine ⟨b, off, h1, h2, fun j hj => ?_⟩
 obtain ⟨u, h5, h6⟩ := h4 j hj
 exact ⟨u, (jc5 ho (fun hb => by have := hS b hb; omega) (by omega)).trans h5, h6⟩
structure Cur (w : World) (g n : Nat) : Prop where
 ex : ∃ (A : Option Addr) (m c p : Nat) (s : Int), Blk w g 88 [.slice A m c, .int .i64 (p : Int), .int .u64 s] ∧ p ≤ n ∧ m ≤ 1000000 ∧ CodeAt w g A m
theorem Cur.more {w : World} {g n n' : Nat} (h : Cur w g n) (hn : n ≤ n') : Cur w g n' := by
 obtain ⟨A, m, c, p, s, h1, h2, h3⟩ := h.ex
 exact ⟨A, m, c, p, s, h1, by omega, h3⟩
theorem Cur.lt {w : World} {g n : Nat} (h : Cur w g n) : g < w.heap.size := by
 obtain ⟨A, m, c, p, s, h1, _⟩ := h.ex
 exact h1.lt
theorem Cur.next {w w' : World} {g n : Nat} (h : Cur w g n) (hb : Below w.heap.size w w') : Cur w' g n := by
 obtain ⟨A, m, c, p, s, h1, h2, h3, h4⟩ := h.ex
 exact ⟨A, m, c, p, s, h1.next hb, h2, h3, CodeAt.only h4 h1.lt (S := fun _ => False) (.of_below hb) (fun _ h => h.elim)⟩
def Drawn (w : World) (g n hi : Nat) (e : Ending) (w' : World) : Prop := ∃ r : Nat, e = .returned (.int .i64 (r : Int)) ∧ r ≤ hi ∧ Cur w' g n ∧ Only (fun b => b = g) w w'
theorem jt8 {w : World} {g n m c p : Nat} {A : Option Addr} {s : Int} (hB : Blk w g 88 [.slice A m c, .int .i64 (p : Int), .int .u64 s]) (hC : CodeAt w g A m) (hp : p ≤ n) (hm : m ≤ 1000000) (q q' : Nat) (s' : Int) :
  Cur ((((w.drewN q).setCell ⟨g, 1, none⟩ (.int .i64 ((p : Int) + 1))).setCell ⟨g, 2, none⟩ (.int .u64 s')).drewN q') g (n + 1) ∧ Only (fun b => b = g) w ((((w.drewN q).setCell ⟨g, 1, none⟩ (.int .i64 ((p : Int) + 1))).setCell ⟨g, 2, none⟩ (.int .u64 s')).drewN q') := by
 have ho : Only (fun b => b = g) w ((((w.drewN q).setCell ⟨g, 1, none⟩ (.int .i64 ((p : Int) + 1))).setCell ⟨g, 2, none⟩ (.int .u64 s')).drewN q') :=
  (jqw (jqw ((Only.refl _ _).quiet (Quiet.mk w q)) 1 _) 2 _).quiet (Quiet.mk _ q')
 refine ⟨⟨A, m, c, p + 1, s', ?_, by omega, hm, CodeAt.only hC hB.lt ho (fun b (hb : b = g) => by omega)⟩, ho⟩
 exact ((hB.drewN q).set_ 1 (.int .i64 ((p : Int) + 1))).set_ 2 (.int .u64 s')
theorem ju3 (x : Int) : ∃ r : Nat, wrap64 (bits .and .u64 (IntKind.u64.wrap x / 1099511627776) 255) = (r : Int) ∧ r ≤ 255 := by
 have h0 : IntKind.u64.wrap x = x % 18446744073709551616 := by simp [IntKind.wrap, IntKind.bits, IntKind.signed]
 have h1 : 0 ≤ x % 18446744073709551616 := by omega
 have h2 : x % 18446744073709551616 < 18446744073709551616 := by omega
 rw [h0]
 generalize x % 18446744073709551616 = y at *
 have h3 : 0 ≤ y / 1099511627776 := by omega
 have h4 : y / 1099511627776 < 18446744073709551616 := by omega
 rw [u64_and _ _ h3 h4 (by decide) (by decide)]
 have h5 : (y / 1099511627776).toNat &&& (255 : Int).toNat ≤ 255 := Nat.and_le_right
 refine ⟨_, ?_, h5⟩
 generalize (y / 1099511627776).toNat &&& (255 : Int).toNat = r at *
 unfold wrap64
 omega
theorem jt3 (g n : Nat) (w : World) (h : Cur w g n) (hn : n ≤ 1000000) :
  Calls Tryz.prog 104 #[.pointer (some ⟨g, 0, none⟩)] w (Drawn w g (n + 1) 255) := by
 obtain ⟨A, m, c, p, s, hB, hp, hm, hC⟩ := h.ex
 by_cases hlt : p < m
 ·obtain ⟨b, off, rfl, hbg, hcell⟩ := hC (by omega)
  have hne : b ≠ g := by omega
  have hb : b < w.heap.size := by have := hB.lt; omega
  obtain ⟨u, hu, u0, u1⟩ := hcell p hlt
  have c0 := hB.cell
  have z0 := hB.frozen
  have hz : ¬ ((p : Int) < 0) := by omega
  have hle : (p : Int) + 1 ≤ (m : Int) := by omega
  have HC := Lib.hid hC
  clear hcell hC
  go_enter Tryz.func104, Tryz.ntmps104
  go_wp2_with fail
  go_quiet (fail)
  go_wp2_with fail
  go_quiet (fail)
  go_wp2_with fail
  go_quiet (fail)
  go_wp2_with fail
  go_ret
  exact ⟨u.toNat, jh3 (by omega), by omega, jt8 hB HC.out hp hm _ _ _⟩
 ·have c0 := hB.cell
  have z0 := hB.frozen
  have hle : ¬ (p : Int) + 1 ≤ (m : Int) := by omega
  have hlt' : ¬ (p : Int) < (m : Int) := by omega
  have HC := Lib.hid hC
  clear hC hlt
  go_enter Tryz.func104, Tryz.ntmps104
  go_wp2_with fail
  go_quiet (fail)
  go_wp2_with fail
  go_quiet (fail)
  go_wp2_with fail
  go_ret
  obtain ⟨r, hr, hr'⟩ := ju3 (IntKind.u64.wrap (IntKind.u64.wrap (s * 6364136223846793005)) + 938938)
  exact ⟨r, jh3 hr, hr', jt8 hB HC.out hp hm _ _ _⟩
theorem jqy (k : Int) (g n : Nat) (w : World) (h : Cur w g n) (hn : n ≤ 999000) (h0 : 1 ≤ k) (h1 : k ≤ 1000000000) :
  Calls Tryz.prog 59 #[.pointer (some ⟨g, 0, none⟩), .int .i64 k] w (Drawn w g (n + 2) (k.toNat - 1)) := by
 by_cases hk : k ≤ 1
 ·go_enter Tryz.func59, Tryz.ntmps59
  go_wp2_with fail
  go_ret
  exact ⟨0, rfl, Nat.zero_le _, h.more (by omega), Only.refl _ _⟩
 ·go_enter Tryz.func59, Tryz.ntmps59
  go_wp2_with fail
  refine (jt3 g n w h (by omega)).mono ?_
  rintro e w1 ⟨r, rfl, hr, c1, o1⟩
  have e1 : (r : Int) % k < k := Int.emod_lt_of_pos _ (by omega)
  have e0 : 0 ≤ (r : Int) % k := Int.emod_nonneg _ (by omega)
  by_cases hk2 : 200 < k
  ·go_wp2_with fail
   refine (jt3 g (n + 1) w1 c1 (by omega)).mono ?_
   rintro e w2 ⟨r2, rfl, hr2, c2, o2⟩
   have f1 : ((r : Int) * 256 + (r2 : Int)) % k < k := Int.emod_lt_of_pos _ (by omega)
   have f0 : 0 ≤ ((r : Int) * 256 + (r2 : Int)) % k := Int.emod_nonneg _ (by omega)
   go_wp2_with fail
   go_ret
   exact ⟨(((r : Int) * 256 + (r2 : Int)) % k).toNat, jh3 (by omega), by omega, c2, o1.trans o2⟩
  ·go_wp2_with fail
   go_ret
   exact ⟨((r : Int) % k).toNat, jh3 (by omega), by omega, c1.more (by omega), o1⟩
def DrawnB (w : World) (g n : Nat) (e : Ending) (w' : World) : Prop := ∃ b : Bool, e = .returned (.bool b) ∧ Cur w' g n ∧ Only (fun b => b = g) w w'
def ju0 (w : World) (g n : Nat) (P : ByteArray → Prop) (e : Ending) (w' : World) : Prop := ∃ s, e = .returned (.string s) ∧ P s ∧ Cur w' g n ∧ Only (fun b => b = g) w w'
def DrawnI (w : World) (g n : Nat) (P : Int → Prop) (e : Ending) (w' : World) : Prop := ∃ s, e = .returned (.int .i64 s) ∧ P s ∧ Cur w' g n ∧ Only (fun b => b = g) w w'
theorem jri (k : Int) (g n : Nat) (w : World) (h : Cur w g n) (hn : n ≤ 999000) (h0 : 1 ≤ k) (h1 : k ≤ 1000000000) :
  Calls Tryz.prog 61 #[.pointer (some ⟨g, 0, none⟩), .int .i64 k] w (DrawnB w g (n + 2)) := by
 go_enter Tryz.func61, Tryz.ntmps61
 go_wp2_with fail
 refine (jqy k g n w h hn h0 h1).mono ?_
 rintro e w1 ⟨r, rfl, hr, c1, o1⟩
 go_wp2_with fail
 go_ret
 exact ⟨_, rfl, c1, o1⟩
theorem jsg (g n b m : Nat) (t : TypeId) (L : List ByteArray) (w : World) (hB : Blk w b t (L.map Value.string)) (hne : b ≠ g) (h : Cur w g n) (hn : n ≤ 999000) (hL : L.length = m) (h0 : 1 ≤ m) (h1 : m ≤ 1000) :
  Calls Tryz.prog 107 #[.pointer (some ⟨g, 0, none⟩), .slice (some ⟨b, 0, none⟩) m m] w (ju0 w g (n + 2) (· ∈ L)) := by
 have HL := Lib.hid hL
 clear hL
 go_enter Tryz.func107, Tryz.ntmps107
 go_wp2_with fail
 refine (jqy m g n w h hn (by omega) (by omega)).mono ?_
 rintro e w1 ⟨r, rfl, hr, c1, o1⟩
 have hr1 : r < m := by simp at hr; omega
 have hr2 : (r : Int) < (m : Int) := by omega
 have hr3 : r < L.length := by rw [HL.out]; exact hr1
 have hc : w1.cell? ⟨b, r, none⟩ = some (.string L[r]) := by
  rw [(hB.only o1 hne).cell r, List.getElem?_map, List.getElem?_eq_getElem hr3]; rfl
 clear hr
 go_wp2_with fail
 go_ret
 exact ⟨_, rfl, List.getElem_mem hr3, c1, o1⟩
theorem jq6 (g n b m : Nat) (t : TypeId) (L : List Int) (w : World) (hB : Blk w b t (jb4 L)) (hne : b ≠ g) (h : Cur w g n) (hn : n ≤ 999000) (hL : L.length = m) (h0 : 1 ≤ m) (h1 : m ≤ 1000) :
  Calls Tryz.prog 58 #[.pointer (some ⟨g, 0, none⟩), .slice (some ⟨b, 0, none⟩) m m] w (DrawnI w g (n + 2) (· ∈ L)) := by
 have HL := Lib.hid hL
 clear hL
 go_enter Tryz.func58, Tryz.ntmps58
 go_wp2_with fail
 refine (jqy m g n w h hn (by omega) (by omega)).mono ?_
 rintro e w1 ⟨r, rfl, hr, c1, o1⟩
 have hr1 : r < m := by simp at hr; omega
 have hr2 : (r : Int) < (m : Int) := by omega
 have hr3 : r < L.length := by rw [HL.out]; exact hr1
 have hc : w1.cell? ⟨b, r, none⟩ = some (.int .i64 L[r]) := by
  rw [(hB.only o1 hne).cell r]
  exact jqe L r hr3
 clear hr
 go_wp2_with fail
 go_ret
 exact ⟨_, rfl, List.getElem_mem hr3, c1, o1⟩
theorem jui (t x : ByteArray) (g n : Nat) (w : World) (h : Cur w g n) (hn : n ≤ 990000) (ht : t.size ≤ 1000000) (hx : 1 ≤ x.size) (hx1 : x.size ≤ 1000) :
  Calls Tryz.prog 72 #[.pointer (some ⟨g, 0, none⟩), .string t, .string x] w (ju0 w g (n + 6) (fun s => s.size ≤ t.size + 1)) := by
 have hx2 : ¬ (x.size : Int) < 1 := by omega
 by_cases h0 : t = ByteArray.empty
 ·subst h0
  go_enter Tryz.func72, Tryz.ntmps72
  go_wp2_with fail
  go_ret
  exact ⟨_, rfl, by simp; omega, h.more (by omega), Only.refl _ _⟩
 ·have hts : 0 < t.size := by
   rcases Nat.eq_zero_or_pos t.size with h1 | h1
   ·exact absurd (by simpa using h1) h0
   ·exact h1
  have hb : (t.toList == ByteArray.empty.toList) = false := by rw [jcc, decide_eq_false h0]
  have hb2 : t.toList.isEmpty = false := by
   cases hh : t.toList with
   | nil => exact absurd (by have := jcc t ByteArray.empty; rw [hh] at this; simpa using this) h0
   | cons a l => rfl
  clear h0
  go_enter Tryz.func72, Tryz.ntmps72
  go_wp2_with fail
  refine (jqy t.size g n w h (by omega) (by omega) (by omega)).mono ?_
  rintro e w1 ⟨r, rfl, hr, c1, o1⟩
  have hr1 : r < t.size := by simp at hr; omega
  clear hr
  go_wp2_with fail
  refine (jqy x.size g _ w1 c1 (by omega) (by omega) (by omega)).mono ?_
  rintro e w2 ⟨j, rfl, hj, c2, o2⟩
  have hj1 : j < x.size := by simp at hj; omega
  clear hj
  go_wp2_with fail
  have hy : ((x.extract j x.size).extract 0 1).size ≤ 1 := by simp; omega
  generalize (x.extract j x.size).extract 0 1 = y at *
  refine (jqy 3 g _ w2 c2 (by omega) (by omega) (by omega)).mono ?_
  rintro e w3 ⟨q, rfl, hq, c3, o3⟩
  have o4 := (o1.trans o2).trans o3
  have e1 : (t.extract 0 r).size = r := by simp; omega
  have e2 : (t.extract r t.size).size = t.size - r := by simp
  have e3 : (t.extract (r + 1) t.size).size = t.size - (r + 1) := by simp
  have E1 := Lib.hid e1
  have E2 := Lib.hid e2
  have E3 := Lib.hid e3
  have f1 : ¬ 9223372036854775807 < r + y.size := by omega
  have f2 : ¬ 9223372036854775807 < r + y.size + (t.size - r) := by omega
  have f3 : ¬ 9223372036854775807 < r + y.size + (t.size - (r + 1)) := by omega
  have f4 : ¬ 9223372036854775807 < r + (t.size - (r + 1)) := by omega
  have hr2 : r ≤ t.size := by omega
  have hr3 : (r : Int) ≤ (t.size : Int) := by omega
  have hr4 : (r : Int) + 1 ≤ (t.size : Int) := by omega
  clear e1 e2 e3
  have hq3 : q = 0 ∨ q = 1 ∨ q = 2 := by simp at hq; omega
  clear hq
  rcases hq3 with rfl | rfl | rfl
  ·go_wp2_with fail
   go_quiet (fail)
   go_wp2_with fail
   go_ret
   exact ⟨_, rfl, by show _ ≤ _; rw [ByteArray.size_append, ByteArray.size_append, E1.out, E2.out]; omega, c3.next ((Quiet.mk _ _).below _), o4.quiet (Quiet.mk _ _)⟩
  ·go_wp2_with fail
   go_quiet (fail)
   go_wp2_with fail
   go_ret
   exact ⟨_, rfl, by show _ ≤ _; rw [ByteArray.size_append, ByteArray.size_append, E1.out, E3.out]; omega, c3.next ((Quiet.mk _ _).below _), o4.quiet (Quiet.mk _ _)⟩
  ·go_wp2_with fail
   go_quiet (fail)
   go_wp2_with fail
   go_ret
   exact ⟨_, rfl, by show _ ≤ _; rw [ByteArray.size_append, E1.out, E3.out]; omega, c3.next ((Quiet.mk _ _).below _), o4.quiet (Quiet.mk _ _)⟩
def jtd (s : ByteArray) : ByteArray := ⟨(s.data.toList.set (s.size - 1) (255 - s.data.toList.getD (s.size - 1) 0)).toArray⟩
def jrc (l : Log) (k : Int) (t : Bool) : ByteArray × Bool := if ja9 l && inB k 0 l.pending.size then (l.durable ++ (if t && decide (0 < k) then jtd (l.pending.extract 0 k.toNat) else l.pending.extract 0 k.toNat), true) else (⟨#[]⟩, false)
theorem jub (s : ByteArray) : (jtd s).size = s.size := by
 show (s.data.toList.set (s.size - 1) (255 - s.data.toList.getD (s.size - 1) 0)).toArray.size = s.data.size
 simp
theorem jue (s : ByteArray) (w : World) : ∃ (C : Array Value) (cap : Nat), (convert 9 47 (.string s)).run Tryz.prog w = .ok (.slice (some ⟨w.heap.size, 0, none⟩) s.size cap) (w.drew.alloc (.cells C 5 (C.size, C.size + 1)))
  ∧ (∀ i (h : i < s.size), C[i]? = some (.int .u8 (s[i].toNat : Int))) ∧ s.size ≤ C.size ∧ s.size ≤ cap := by
 refine ⟨_, _, run_bytes_of_string (P := Tryz.prog) w 9 47 5 s Tryz.underlying9 Tryz.underlying47 Tryz.underlying5, fun i h => bytesRow_at s _ i h, ?_, ?_⟩
 ·simp [bytesRow]
 ·exact grownCap_ge w s.size 0 5
theorem jve (s : ByteArray) (w : World) (g cap : Nat) (x : Int) (h : 0 < s.size) (hx : ∀ h' : s.size - 1 < s.size, x = (s[s.size - 1].toNat : Int)) (hw : ∀ i (h : i < s.size), w.cell? ⟨g, i, none⟩ = some (if i = s.size - 1 then .int .u8 (255 - x) else .int .u8 (s[i].toNat : Int))) :
  (convert 47 9 (.slice (some ⟨g, 0, none⟩) s.size cap)).run Tryz.prog w = .ok (.string (jtd s)) w := by
 have hl : (s.data.toList.set (s.size - 1) (255 - s.data.toList.getD (s.size - 1) 0)).length = s.size := by
  rw [List.length_set]; exact Array.length_toList
 have hd : s.data.toList.length = s.size := Array.length_toList
 have hb := run_convert_bytes_back (P := Tryz.prog) w 47 9 5 ⟨g, 0, none⟩ cap (s.data.toList.set (s.size - 1) (255 - s.data.toList.getD (s.size - 1) 0)) Tryz.underlying47 Tryz.underlying5 Tryz.underlying9 (fun j hj => by
  have hadd : (⟨g, 0, none⟩ : Addr).add j = ⟨g, j, none⟩ := by unfold Addr.add; split <;> simp_all
  have hj' : j < s.size := by omega
  rw [hadd, hw j hj']
  by_cases e : j = s.size - 1
  ·subst e
   rw [if_pos rfl, hx hj']
   simp only [List.getElem_set_self]
   rw [List.getD_eq_getElem?_getD, List.getElem?_eq_getElem (by omega), Option.getD_some]
   have h1 : (s.data.toList[s.size - 1]'(by omega)) = s[s.size - 1] := rfl
   rw [h1]
   have h2 := s[s.size - 1].toNat_lt
   rw [UInt8.toNat_sub_of_le _ _ (by rw [UInt8.le_iff_toNat_le]; have : (255 : UInt8).toNat = 255 := rfl; omega)]
   have : (255 : UInt8).toNat = 255 := rfl
   rw [this]
   congr 2
   omega
  ·rw [if_neg e, List.getElem_set_ne (by omega)]
   rfl)
 rw [hl] at hb
 exact hb
theorem jst (s : ByteArray) (w : World) (g cap : Nat) (hw : ∀ i (h : i < s.size), w.cell? ⟨g, i, none⟩ = some (.int .u8 (s[i].toNat : Int))) :
  (convert 47 9 (.slice (some ⟨g, 0, none⟩) s.size cap)).run Tryz.prog w = .ok (.string s) w := by
 have hd : s.data.toList.length = s.size := Array.length_toList
 have hb := run_convert_bytes_back (P := Tryz.prog) w 47 9 5 ⟨g, 0, none⟩ cap s.data.toList Tryz.underlying47 Tryz.underlying5 Tryz.underlying9 (fun j hj => by
  have hadd : (⟨g, 0, none⟩ : Addr).add j = ⟨g, j, none⟩ := by unfold Addr.add; split <;> simp_all
  rw [hadd, hw j (by omega)]
  rfl)
 rw [hd] at hb
 exact hb
theorem jtk (l : Log) (k : Int) (t : Bool) (w : World) (hs : l.upto 1048576) (hg : Gl w) :
  Calls Tryz.prog 30 #[.agg #[l.durable, l.pending, l.count], .int .i64 k, .bool t] w (ju1 w (jrc l k t)) := by
 have ⟨h1, h2⟩ := hs
 have K0 := nB w (.cells #[l.durable, l.pending, l.count] 33)
 have B0 := nP w [l.durable, l.pending, l.count] 33
 cases hv : ja9 l
 ·have HR := Lib.hid (show jrc l k t = (⟨#[]⟩, false) by simp [jrc, hv])
  have HV := Lib.hid hv
  clear hv
  go_enter Tryz.func30, Tryz.ntmps30
  go_wp2_with fail
  refine (jch l _ hs (hg.next K0)).mono ?_
  rintro e w1 ⟨rfl, b1⟩
  rw [HV.out]
  have K1 := jaa K0 b1
  go_wp2_with fail
  go_ret2
  rw [HR.out]
  exact ⟨rfl, K1⟩
 have HV := Lib.hid hv
 cases hi : inB k 0 l.pending.size
 ·have HR := Lib.hid (show jrc l k t = (⟨#[]⟩, false) by simp [jrc, hi])
  have HI := Lib.hid hi
  clear hv hi
  go_enter Tryz.func30, Tryz.ntmps30
  go_wp2_with fail
  refine (jch l _ hs (hg.next K0)).mono ?_
  rintro e w1 ⟨rfl, b1⟩
  rw [HV.out]
  have K1 := jaa K0 b1
  have c1 := (B0.next b1).cell
  go_wp2_with fail
  refine (jaf _ _ _ _).mono ?_
  rintro e w' ⟨rfl, rfl⟩
  rw [HI.out]
  go_wp2_with fail
  go_ret2
  rw [HR.out]
  exact ⟨rfl, K1⟩
 have HI := Lib.hid hi
 obtain ⟨i1, i2⟩ := jaq hi
 obtain ⟨n, rfl⟩ := Int.eq_ofNat_of_zero_le i1
 have hsz : (l.pending.extract 0 n).size = n := by simp; omega
 have HS := Lib.hid hsz
 have HR0 := Lib.hid (show jrc l n t = (l.durable ++ (if t && decide (0 < (n : Int)) then jtd (l.pending.extract 0 n) else l.pending.extract 0 n), true) by simp [jrc, hv, hi])
 clear hv hi i1 hsz
 go_enter Tryz.func30, Tryz.ntmps30
 go_wp2_with fail
 refine (jch l _ hs (hg.next K0)).mono ?_
 rintro e w1 ⟨rfl, b1⟩
 rw [HV.out]
 have K1 := jaa K0 b1
 have B1 := B0.next b1
 have c1 := B1.cell
 have lt1 := B1.lt
 go_wp2_with fail
 refine (jaf _ _ _ _).mono ?_
 rintro e w' ⟨rfl, rfl⟩
 rw [HI.out]
 obtain ⟨C, cap, hconv, hC, hCs, hcap⟩ := jue (l.pending.extract 0 n) w1
 rw [HS.out] at hconv hcap
 have hcell : ∀ i (h : i < (l.pending.extract 0 n).size), (w1.alloc (.cells C 5 (C.size, C.size + 1))).cell? ⟨w1.heap.size, i, none⟩ = some (.int .u8 ((l.pending.extract 0 n)[i].toNat : Int)) := fun i h => by rw [World.cell?_alloc_mark]; exact hC i h
 have hne : w1.heap.size ≠ w.heap.size := by omega
 have hne' : w.heap.size ≠ w1.heap.size := by omega
 have fs : ¬ 9223372036854775807 < l.durable.size + n := by omega
 have ft : ¬ 9223372036854775807 < l.durable.size + (jtd (l.pending.extract 0 n)).size := by rw [jub, HS.out]; omega
 have KE := (K1.alloc K1.size (.cells C 5 (C.size, C.size + 1)))
 by_cases ht : t = true ∧ 0 < n
 ·obtain ⟨rfl, hn⟩ := ht
  have HR := Lib.hid (show jrc l n true = (l.durable ++ jtd (l.pending.extract 0 n), true) by rw [HR0.out]; simp [hn])
  have hlt : n - 1 < (l.pending.extract 0 n).size := by rw [HS.out]; omega
  obtain ⟨x, hx⟩ : ∃ x : Int, x = ((l.pending.extract 0 n)[n - 1].toNat : Int) := ⟨_, rfl⟩
  have c0 : (w1.alloc (.cells C 5 (C.size, C.size + 1))).cell? ⟨w1.heap.size, n - 1, none⟩ = some (.int .u8 x) := by rw [hcell _ hlt, hx]
  have z0 : (w1.alloc (.cells C 5 (C.size, C.size + 1))).frozen? ⟨w1.heap.size, n - 1, none⟩ = false := by
   rw [World.frozen?_alloc_mark]
   simp
   omega
  have x0 : 0 ≤ x := by omega
  have x1 : x ≤ 255 := by have := (l.pending.extract 0 n)[n - 1].toNat_lt; omega
  have hback := jve (l.pending.extract 0 n) ((w1.alloc (.cells C 5 (C.size, C.size + 1))).setCell ⟨w1.heap.size, n - 1, none⟩ (.int .u8 (255 - x))).drew w1.heap.size cap x (by rw [HS.out]; exact hn) (fun h' => by rw [hx]; congr 3; rw [HS.out]) (fun i h => by
   show ((w1.alloc (.cells C 5 (C.size, C.size + 1))).setCell ⟨w1.heap.size, n - 1, none⟩ (.int .u8 (255 - x))).cell? ⟨w1.heap.size, i, none⟩ = _
   by_cases e : i = n - 1
   ·rw [if_pos (by rw [HS.out]; exact e), e]
    exact World.cell?_setCell_same _ _ _ c0
   ·rw [if_neg (by rw [HS.out]; exact e), World.cell?_setCell_other _ _ _ _ (by simp only [ne_eq, Addr.mk.injEq, true_and, and_true]; omega)]
    exact hcell i h)
  rw [HS.out] at hback
  clear hcell hC hx
  go_wp2_with fail
  go_ret2
  rw [HR.out]
  exact ⟨rfl, ja3 (KE.setCell (p := ⟨w1.heap.size, n - 1, none⟩) K1.size _) (Quiet.one _)⟩
 ·have HR := Lib.hid (show jrc l n t = (l.durable ++ l.pending.extract 0 n, true) by
   rw [HR0.out]
   have : (t && decide (0 < (n : Int))) = false := by
    cases t
    ·rfl
    ·simp at ht ⊢; omega
   rw [this]; rfl)
  have hback := jst (l.pending.extract 0 n) (w1.alloc (.cells C 5 (C.size, C.size + 1))).drew w1.heap.size cap hcell
  rw [HS.out] at hback
  clear hcell hC
  cases t
  ·clear ht
   go_wp2_with fail
   go_ret2
   rw [HR.out]
   exact ⟨rfl, ja3 KE (Quiet.one _)⟩
  ·have hn : ¬ 0 < n := fun h => ht ⟨rfl, h⟩
   clear ht
   go_wp2_with fail
   go_ret2
   rw [HR.out]
   exact ⟨rfl, ja3 KE (Quiet.one _)⟩
def jq4 (l : Log) : List LogRecord × Bool := if ja9 l then ((allR (l.durable ++ l.pending)).l, true) else ([], false)
theorem js5 (l : Log) : (jq4 l).1.length ≤ 60 := by
 unfold jq4
 split
 ·exact (jkd _).len
 ·exact Nat.zero_le _
def js2 (w : World) (R : List LogRecord × Bool) (e : Ending) (w' : World) : Prop := ∃ (A : Option Addr) (c : Nat), e = .returned (.tuple #[.slice A R.1.length c, .bool R.2]) ∧ w'.ownsRow w.heap.size 69 2 (.slice A R.1.length c) R.1.length (R.1.flatMap LogRecord.enc) ∧ Below w.heap.size w w'
theorem jsm (l : Log) (w : World) (hs : l.upto 1048576) (hg : Gl w) :
  Calls Tryz.prog 37 #[.agg #[l.durable, l.pending, l.count]] w (js2 w (jq4 l)) := by
 have ⟨h1, h2⟩ := hs
 have zs : (l.durable ++ l.pending).size = l.durable.size + l.pending.size := ByteArray.size_append
 have fs : ¬ 9223372036854775807 < l.durable.size + l.pending.size := by omega
 have K0 := nB w (.cells #[l.durable, l.pending, l.count] 33)
 have B0 := nP w [l.durable, l.pending, l.count] 33
 cases hv : ja9 l
 ·have HR := Lib.hid (show jq4 l = ([], false) by simp [jq4, hv])
  have HV := Lib.hid hv
  clear hv
  go_enter Tryz.func37, Tryz.ntmps37
  go_wp2_with fail
  refine (jch l _ hs (hg.next K0)).mono ?_
  rintro e w1 ⟨rfl, b1⟩
  rw [HV.out]
  have K1 := jaa K0 b1
  go_wp2_with fail
  go_ret2
  rw [HR.out]
  exact ⟨none, 0, rfl, World.ownsRow_nil _ _ _ _, K1⟩
 ·have HR := Lib.hid (show jq4 l = ((allR (l.durable ++ l.pending)).l, true) by simp [jq4, hv])
  have HV := Lib.hid hv
  clear hv
  go_enter Tryz.func37, Tryz.ntmps37
  go_wp2_with fail
  refine (jch l _ hs (hg.next K0)).mono ?_
  rintro e w1 ⟨rfl, b1⟩
  rw [HV.out]
  have K1 := jaa K0 b1
  have B1 := B0.next b1
  have c1 := B1.cell
  go_wp2_with fail
  refine (jhz (l.durable ++ l.pending) _ (by omega) (hg.next K1)).mono ?_
  rintro e w2 ⟨A, B, c, d, rfl, hA, hB, b2⟩
  have K2 := jaa K1 b2
  go_wp2_with fail
  go_ret2
  rw [HR.out]
  exact ⟨_, _, rfl, jax hA K1.size, K2⟩
theorem jrx (l : Log) (w : World) (hs : l.upto 1048576) :
  Calls Tryz.prog 64 #[.agg #[l.durable, l.pending, l.count]] w (js2 w (jq4 l)) := by
 have ⟨h1, h2⟩ := hs
 have zs : (l.durable ++ l.pending).size = l.durable.size + l.pending.size := ByteArray.size_append
 have fs : ¬ 9223372036854775807 < l.durable.size + l.pending.size := by omega
 have K0 := nB w (.cells #[l.durable, l.pending, l.count] 33)
 have B0 := nP w [l.durable, l.pending, l.count] 33
 cases hv : ja9 l
 ·have HR := Lib.hid (show jq4 l = ([], false) by simp [jq4, hv])
  have HV := Lib.hid hv
  clear hv
  go_enter Tryz.func64, Tryz.ntmps64
  go_wp2_with fail
  refine (jed l _ hs).mono ?_
  rintro e w1 ⟨rfl, b1⟩
  rw [HV.out]
  have K1 := jaa K0 b1
  go_wp2_with fail
  go_ret2
  rw [HR.out]
  exact ⟨_, 0, rfl, jax (ja4 w1 _ _) K1.size, jaa K1 ((Below.refl _ _).alloc (Nat.le_refl _) _)⟩
 ·have HR := Lib.hid (show jq4 l = ((allR (l.durable ++ l.pending)).l, true) by simp [jq4, hv])
  have HV := Lib.hid hv
  clear hv
  go_enter Tryz.func64, Tryz.ntmps64
  go_wp2_with fail
  refine (jed l _ hs).mono ?_
  rintro e w1 ⟨rfl, b1⟩
  rw [HV.out]
  have K1 := jaa K0 b1
  have B1 := B0.next b1
  have c1 := B1.cell
  go_wp2_with fail
  refine (jiq (l.durable ++ l.pending) _ (by omega)).mono ?_
  rintro e w2 ⟨A, c, rfl, hA, b2⟩
  have K2 := jaa K1 b2
  go_wp2_with fail
  go_ret2
  rw [HR.out]
  exact ⟨_, _, rfl, jax hA K1.size, K2⟩
theorem juu (s : ByteArray) : s.extract 0 s.size = s := by simp
theorem jse {s : ByteArray} : ∀ (f : Nat) (x : Recs), ∃ t, (jjb s f x).l = x.l ++ t ∧ x.at_ ≤ (jjb s f x).at_
 | 0, x => ⟨[], by simp [jjb], Nat.le_refl _⟩
 | f + 1, x => by
  cases g : jbn x.l.length (s.extract x.at_ s.size) with
  | none => rw [jbs g]; exact ⟨[], by simp, Nat.le_refl _⟩
  | some r =>
   obtain ⟨e, n⟩ := r
   rw [jce g]
   obtain ⟨t, h1, h2⟩ := jse f ⟨x.l ++ [e], x.ends ++ [x.at_ + n], x.at_ + n⟩
   exact ⟨e :: t, by rw [h1]; simp, Nat.le_trans (Nat.le_add_right _ _) h2⟩
theorem jsu {u v : ByteArray} : ∀ (f : Nat) (x : Recs), x.at_ ≤ u.size → ∃ t, (jjb (u ++ v) f x).l = (jjb u f x).l ++ t ∧ (jjb u f x).at_ ≤ (jjb (u ++ v) f x).at_
 | 0, x, _ => ⟨[], by simp [jjb], Nat.le_refl _⟩
 | f + 1, x, hp => by
  cases g : jbn x.l.length (u.extract x.at_ u.size) with
  | none => rw [jbs g]; exact jse _ _
  | some r =>
   obtain ⟨e, n⟩ := r
   have h1 := (jbv g).2.2.2.2
   have h2 : (u.extract x.at_ u.size).size = u.size - x.at_ := by simp
   have g2 : jbn x.l.length ((u ++ v).extract x.at_ (u ++ v).size) = some (e, n) := by rw [jls hp]; exact jn7 g
   rw [jce g, jce g2]
   exact jsu f _ (by show x.at_ + n ≤ u.size; omega)
theorem jvr {u v : ByteArray} : ∀ (f : Nat) (x : Recs), x.at_ ≤ u.size → (jjb (u ++ v) f x).at_ ≤ u.size → jjb u f x = jjb (u ++ v) f x
 | 0, _, _, _ => rfl
 | f + 1, x, hp, h => by
  cases g : jbn x.l.length ((u ++ v).extract x.at_ (u ++ v).size) with
  | none =>
   have g2 : jbn x.l.length (u.extract x.at_ u.size) = none := by
    cases g2 : jbn x.l.length (u.extract x.at_ u.size) with
    | none => rfl
    | some r =>
     obtain ⟨e, n⟩ := r
     rw [jls hp, jn7 g2] at g
     cases g
   rw [jbs g, jbs g2]
  | some r =>
   obtain ⟨e, n⟩ := r
   rw [jce g] at h ⊢
   obtain ⟨t, _, h3⟩ := jse (s := u ++ v) f ⟨x.l ++ [e], x.ends ++ [x.at_ + n], x.at_ + n⟩
   have h4 : x.at_ + n ≤ u.size := Nat.le_trans h3 h
   have h2 : (u.extract x.at_ u.size).size = u.size - x.at_ := by simp
   have g2 : jbn x.l.length (u.extract x.at_ u.size) = some (e, n) := by
    rw [jls hp] at g
    exact jpr g (by omega)
   rw [jce g2]
   exact jvr f _ h4 h
theorem jty (k : Nat) {s : ByteArray} (h : s.size = 0) : jbn k s = none := by
 cases g : jbn k s with
 | none => rfl
 | some r =>
  obtain ⟨e, n⟩ := r
  have h1 := (jbv g).2.2.2.2
  have h2 := (jio g).1
  omega
theorem jt0 {s t : ByteArray} {e : LogRecord} : ∀ (f : Nat) (x : Recs), x.at_ ≤ s.size → (jjb s f x).at_ = s.size → jbn (jjb s f x).l.length t = some (e, t.size) → (jjb s f x).l.length < x.l.length + f →
  jjb (s ++ t) f x = ⟨(jjb s f x).l ++ [e], (jjb s f x).ends ++ [s.size + t.size], s.size + t.size⟩
 | 0, x, _, _, _, h => by
  have h1 : x.l.length < x.l.length + 0 := h
  omega
 | f + 1, x, hp, ha, hn, hf => by
  cases g : jbn x.l.length (s.extract x.at_ s.size) with
  | none =>
   rw [jbs g] at ha hn ⊢
   have g2 : jbn x.l.length ((s ++ t).extract x.at_ (s ++ t).size) = some (e, t.size) := by
    have h0 : s.extract s.size s.size = ByteArray.empty := by simp
    rw [jls hp, ha, h0, ByteArray.empty_append]
    exact hn
   rw [jce g2, ha]
   exact jbs (jty _ (by simp)) f
  | some r =>
   obtain ⟨e', n⟩ := r
   have h1 := (jbv g).2.2.2.2
   have h2 : (s.extract x.at_ s.size).size = s.size - x.at_ := by simp
   have g2 : jbn x.l.length ((s ++ t).extract x.at_ (s ++ t).size) = some (e', n) := by rw [jls hp]; exact jn7 g
   rw [jce g] at ha hn hf ⊢
   rw [jce g2]
   exact jt0 f _ (by show x.at_ + n ≤ s.size; omega) ha hn (by simp only [List.length_append, List.length_singleton]; omega)
theorem ju8 {s t : ByteArray} {e : LogRecord} (ha : (allR s).at_ = s.size) (hn : jbn (allR s).l.length t = some (e, t.size)) (hl : (allR s).l.length < 60) :
  allR (s ++ t) = ⟨(allR s).l ++ [e], (allR s).ends ++ [s.size + t.size], s.size + t.size⟩ := by
 have h := jt0 (s := s) (t := t) (e := e) 61 ⟨[], [0], 0⟩ (Nat.zero_le _) (by rw [jdo]; exact ha) (by rw [jdo]; exact hn) (by rw [jdo]; show _ < 0 + 61; omega)
 rw [jdo, jdo] at h
 exact h
theorem jrh (u v : ByteArray) : ∃ t, (allR (u ++ v)).l = (allR u).l ++ t ∧ (allR u).at_ ≤ (allR (u ++ v)).at_ := by
 rw [← jdo, ← jdo]
 exact jsu 61 _ (Nat.zero_le _)
theorem jun {u v : ByteArray} (h : (allR (u ++ v)).at_ ≤ u.size) : allR u = allR (u ++ v) := by
 rw [← jdo (u ++ v)] at h
 rw [← jdo, ← jdo (u ++ v)]
 exact jvr 61 _ (Nat.zero_le _) h
theorem jvc {s : ByteArray} (h : jbn 0 s = none) : allR s = ⟨[], [0], 0⟩ := by
 rw [← jdo]
 refine jbs ?_ 61
 show jbn 0 (s.extract 0 s.size) = none
 rw [juu]
 exact h
theorem jrs : allR ⟨#[]⟩ = ⟨[], [0], 0⟩ := jvc (jty 0 rfl)
theorem jt2 (s : ByteArray) : allR (s.extract 0 (allR s).at_) = allR s := by
 have h1 := (jkd s).at_
 have h2 := jjl s (allR s).at_ h1
 have h3 : (s.extract 0 (allR s).at_).size = (allR s).at_ := by simp; omega
 have h4 := jun (u := s.extract 0 (allR s).at_) (v := s.extract (allR s).at_ s.size) (by rw [h2, h3]; exact Nat.le_refl _)
 rw [h2] at h4
 exact h4
theorem jvn {k : Nat} {e : LogRecord} (h : jgb e = true) : jde 10 (jfz (jd9 k e)) = false := by
 obtain ⟨_, _, h3, h4, _⟩ := jdn h
 unfold jfz jd9
 simp only [jh1, jke 10 _ (by decide), jnn h3 10 (by decide), jnn h4 10 (by decide)]
 decide
theorem juw {k : Nat} {e : LogRecord} (h : jgb e = true) : upto 10 (jck k e) = jfz (jd9 k e) ∧ jde 10 (jck k e) = true := by
 have h1 := je6 (q := ⟨#[]⟩) (jvn (k := k) h)
 have h2 : jck k e = jfz (jd9 k e) ++ ⟨#[10]⟩ ++ ⟨#[]⟩ := by
  show _ = _ ++ ByteArray.empty
  rw [ByteArray.append_empty]; rfl
 rw [h2]
 exact ⟨h1.1, h1.2.2⟩
theorem juz {k : Nat} {e : LogRecord} (h : jgb e = true) (hk : k < 60) : jbn k (jck k e) = some (e, (jck k e).size) := by
 obtain ⟨h1, h2⟩ := juw (k := k) h
 unfold jbn
 rw [if_pos ⟨h2, hk⟩, h1, okR_of h rfl]
 have h3 : (jck k e).size = (jfz (jd9 k e)).size + 1 := by unfold jck; rw [ByteArray.size_append]; rfl
 rw [h3]; rfl
def juk (s : ByteArray) : Prop := ∀ b ∈ s.data.toList, b.toNat < 127
theorem jrb {s t : ByteArray} : juk (s ++ t) ↔ juk s ∧ juk t := by
 unfold juk
 simp only [ByteArray.data_append, Array.toList_append, List.mem_append]
 exact ⟨fun h => ⟨fun b hb => h b (.inl hb), fun b hb => h b (.inr hb)⟩, fun h b hb => hb.elim (h.1 b) (h.2 b)⟩
theorem jt1 (n : Nat) : juk (jcf n) := fun b hb => by
 have := jik n b (by simpa [jcf] using hb)
 omega
theorem js0 {s : ByteArray} (h : jdf s = true) : juk s := fun b hb => by
 have h1 := List.all_eq_true.1 h b hb
 have := (jf9.1 h1).1.2
 omega
theorem jr9 {b : UInt8} (h : b.toNat < 127) : juk ⟨#[b]⟩ := fun c hc => by
 have : c = b := by simpa using hc
 rw [this]; exact h
theorem jvi {k : Nat} {e : LogRecord} (h : jgb e = true) : juk (jck k e) := by
 obtain ⟨_, _, h3, h4, _⟩ := jdn h
 unfold jck jfz jd9
 simp only [jrb]
 exact ⟨⟨⟨⟨⟨⟨⟨jt1 _, jr9 (by decide)⟩, js0 h3⟩, jr9 (by decide)⟩, js0 h4⟩, jr9 (by decide)⟩, jt1 _⟩, jr9 (by decide)⟩
theorem jvd {s : ByteArray} : ∀ (f : Nat) (x : Recs), x.at_ ≤ s.size → juk (s.extract 0 x.at_) → juk (s.extract 0 (jjb s f x).at_)
 | 0, _, _, h => h
 | f + 1, x, hp, h => by
  cases g : jbn x.l.length (s.extract x.at_ s.size) with
  | none => rw [jbs g]; exact h
  | some r =>
   obtain ⟨e, n⟩ := r
   obtain ⟨h1, _, h3, h4, h5⟩ := jbv g
   obtain ⟨h6, h7⟩ := jkt h3
   have h2 : (s.extract x.at_ s.size).size = s.size - x.at_ := by simp
   have hA := jjl s x.at_ hp
   have hT := jez h1
   have hz : (s.extract 0 x.at_).size = x.at_ := by simp; omega
   rw [jce g]
   refine jvd f _ (by show x.at_ + n ≤ s.size; omega) ?_
   have hs : s = (s.extract 0 x.at_ ++ (upto 10 (s.extract x.at_ s.size) ++ ⟨#[10]⟩)) ++ je0 10 (s.extract x.at_ s.size) := by
    rw [ByteArray.append_assoc, ← hT, hA]
   have hn : (s.extract 0 x.at_ ++ (upto 10 (s.extract x.at_ s.size) ++ ⟨#[10]⟩)).size = x.at_ + n := by
    rw [ByteArray.size_append, ByteArray.size_append, hz, h4]
    rfl
   have he := (ji2 (s.extract 0 x.at_ ++ (upto 10 (s.extract x.at_ s.size) ++ ⟨#[10]⟩)) (je0 10 (s.extract x.at_ s.size))).1
   rw [hn, ← hs] at he
   show juk (s.extract 0 (x.at_ + n))
   rw [he]
   exact jrb.2 ⟨h, by rw [← h7]; exact jvi h6⟩
theorem jt6 (s : ByteArray) : juk (s.extract 0 (allR s).at_) := by
 rw [← jdo]
 refine jvd 61 _ (Nat.zero_le _) ?_
 intro b hb
 simp at hb
theorem jud {p : ByteArray} (h : 0 < p.size) : ∃ (q : ByteArray) (c : UInt8), p = q ++ ⟨#[c]⟩ ∧ jtd p = q ++ ⟨#[255 - c]⟩ := by
 obtain ⟨⟨l⟩⟩ := p
 have hne : l ≠ [] := by
  rintro rfl
  exact absurd h (by decide)
 obtain ⟨r, c, rfl⟩ : ∃ r c, l = r ++ [c] := ⟨l.dropLast, l.getLast hne, (List.dropLast_concat_getLast hne).symm⟩
 have hz : (⟨(r ++ [c]).toArray⟩ : ByteArray).size - 1 = r.length := by
  show (r ++ [c]).toArray.size - 1 = r.length
  simp
 refine ⟨⟨r.toArray⟩, c, ?_, ?_⟩
 ·apply ByteArray.ext
  rw [ByteArray.data_append]
  simp
 ·unfold jtd
  rw [hz]
  apply ByteArray.ext
  rw [ByteArray.data_append]
  simp
theorem jrv {l : Log} (h : ja9 l = true) : (allR (l.durable ++ l.pending)).at_ = (l.durable ++ l.pending).size ∧ (allR l.durable).at_ = l.durable.size ∧ ((allR (l.durable ++ l.pending)).l.length : Int) = l.count := by
 unfold ja9 at h
 simp only [Bool.and_eq_true, decide_eq_true_eq] at h
 rw [ByteArray.size_append]
 exact ⟨h.1.1, h.1.2, h.2⟩
theorem jsh {l : Log} (h1 : (allR (l.durable ++ l.pending)).at_ = (l.durable ++ l.pending).size) (h2 : (allR l.durable).at_ = l.durable.size) (h3 : ((allR (l.durable ++ l.pending)).l.length : Int) = l.count) : ja9 l = true := by
 rw [ByteArray.size_append] at h1
 unfold ja9
 rw [decide_eq_true h1, decide_eq_true h2, decide_eq_true h3]
 rfl
theorem jtq (s : ByteArray) : ja9 ⟨s.extract 0 (allR s).at_, ⟨#[]⟩, ((allR s).l.length : Int)⟩ = true := by
 have h1 := jt2 s
 have h2 : (s.extract 0 (allR s).at_).size = (allR s).at_ := by have := (jkd s).at_; simp; omega
 have h3 : s.extract 0 (allR s).at_ ++ (⟨#[]⟩ : ByteArray) = s.extract 0 (allR s).at_ := ByteArray.append_empty
 refine jsh ?_ ?_ ?_
 ·show (allR (s.extract 0 (allR s).at_ ++ ⟨#[]⟩)).at_ = _
  rw [h3, h1, h2]
 ·show (allR (s.extract 0 (allR s).at_)).at_ = _
  rw [h1, h2]
 ·show ((allR (s.extract 0 (allR s).at_ ++ ⟨#[]⟩)).l.length : Int) = _
  rw [h3, h1]
theorem jvf {l : Log} {e : LogRecord} (hv : ja9 l = true) (he : jgb e = true) (hc : l.count ≠ 60) :
  ja9 ⟨l.durable, l.pending ++ jck l.count.toNat e, l.count + 1⟩ = true ∧ (allR (l.durable ++ (l.pending ++ jck l.count.toNat e))).l = (allR (l.durable ++ l.pending)).l ++ [e]
   ∧ (allR (l.durable ++ (l.pending ++ jck l.count.toNat e))).at_ = (l.durable ++ (l.pending ++ jck l.count.toNat e)).size := by
 obtain ⟨h1, h2, h3⟩ := jrv hv
 obtain ⟨h4, h5, _⟩ := jg4 hv
 have hk : (allR (l.durable ++ l.pending)).l.length = l.count.toNat := by omega
 have hp := ju8 (s := l.durable ++ l.pending) (t := jck l.count.toNat e) (e := e) h1 (by rw [hk]; exact juz he (by omega)) (by omega)
 rw [ByteArray.append_assoc] at hp
 have hz : (l.durable ++ (l.pending ++ jck l.count.toNat e)).size = (l.durable ++ l.pending).size + (jck l.count.toNat e).size := by
  rw [← ByteArray.append_assoc, ByteArray.size_append]
 refine ⟨jsh ?_ h2 ?_, by rw [hp], by rw [hp, hz]⟩
 ·show (allR (l.durable ++ (l.pending ++ jck l.count.toNat e))).at_ = (l.durable ++ (l.pending ++ jck l.count.toNat e)).size
  rw [hp, hz]
 ·show ((allR (l.durable ++ (l.pending ++ jck l.count.toNat e))).l.length : Int) = l.count + 1
  rw [hp]
  simp only [List.length_append, List.length_singleton]
  omega
theorem jtt {l : Log} {k : Int} {t : Bool} {s : ByteArray} (h : jrc l k t = (s, true)) :
  ja9 l = true ∧ s.size ≤ 30000 ∧ l.durable.size ≤ (allR s).at_ ∧ ∃ r, (allR (l.durable ++ l.pending)).l = (allR s).l ++ r := by
 unfold jrc at h
 cases hv : ja9 l with
 | false => rw [hv] at h; simp at h
 | true =>
  cases hi : inB k 0 l.pending.size with
  | false => rw [hv, hi] at h; simp at h
  | true =>
   obtain ⟨h1, h2, h3⟩ := jrv hv
   obtain ⟨_, _, h6⟩ := jg4 hv
   obtain ⟨i1, i2⟩ := jaq hi
   obtain ⟨n, rfl⟩ := Int.eq_ofNat_of_zero_le i1
   have hp := jjl l.pending n (by omega)
   have hz : (l.pending.extract 0 n).size = n := by simp; omega
   rw [hv, hi] at h
   simp only [Bool.and_true, ↓reduceIte, Prod.mk.injEq, and_true, Int.toNat_natCast] at h
   refine ⟨rfl, ?_⟩
   by_cases ht : (t && decide (0 < (n : Int))) = true
   ·rw [if_pos ht] at h
    have hn : 0 < n := by
     have := (Bool.and_eq_true _ _ |>.mp ht).2
     simp at this; omega
    obtain ⟨q, c, h7, h8⟩ := jud (p := l.pending.extract 0 n) (by omega)
    have hs : s = (l.durable ++ q) ++ ⟨#[255 - c]⟩ := by rw [← h, h8, ByteArray.append_assoc]
    have hp' : q ++ ⟨#[c]⟩ ++ l.pending.extract n l.pending.size = l.pending := by rw [← h7]; exact hp
    have hfull : l.durable ++ l.pending = (l.durable ++ q) ++ (⟨#[c]⟩ ++ l.pending.extract n l.pending.size) := by
     have hp2 : q ++ (⟨#[c]⟩ ++ l.pending.extract n l.pending.size) = l.pending := by rw [← ByteArray.append_assoc]; exact hp'
     rw [ByteArray.append_assoc, hp2]
    have hlow : c.toNat < 127 := by
     have h9 := jt6 (l.durable ++ l.pending)
     rw [h1, juu, hfull] at h9
     exact (jrb.1 (jrb.1 h9).2).1 c (by simp)
    have hle : (allR s).at_ ≤ (l.durable ++ q).size := by
     have h9 := jt6 s
     have h10 := (jkd s).at_
     have h11 : s.size = (l.durable ++ q).size + 1 := by rw [hs, ByteArray.size_append]; rfl
     by_cases hle : (allR s).at_ ≤ (l.durable ++ q).size
     ·exact hle
     ·exfalso
      have h12 : (allR s).at_ = s.size := by omega
      rw [h12, juu, hs] at h9
      have h13 := (jrb.1 h9).2 (255 - c) (by simp)
      rw [UInt8.toNat_sub_of_le _ _ (by rw [UInt8.le_iff_toNat_le]; have : (255 : UInt8).toNat = 255 := rfl; omega)] at h13
      have : (255 : UInt8).toNat = 255 := rfl
      omega
    have heq : allR (l.durable ++ q) = allR s := by
     have := jun (u := l.durable ++ q) (v := ⟨#[255 - c]⟩) (by rw [← hs]; exact hle)
     rw [← hs] at this
     exact this
    refine ⟨?_, ?_, ?_⟩
    ·have h9 := congrArg ByteArray.size h7
     have h10 := congrArg ByteArray.size hs
     have h11 : (⟨#[c]⟩ : ByteArray).size = 1 := rfl
     have h12 : (⟨#[255 - c]⟩ : ByteArray).size = 1 := rfl
     rw [ByteArray.size_append] at h9
     rw [ByteArray.size_append, ByteArray.size_append] at h10
     omega
    ·obtain ⟨_, _, h9⟩ := jrh l.durable q
     rw [heq] at h9
     omega
    ·obtain ⟨r, h9, _⟩ := jrh (l.durable ++ q) (⟨#[c]⟩ ++ l.pending.extract n l.pending.size)
     rw [← hfull, heq] at h9
     exact ⟨r, h9⟩
   ·rw [if_neg ht] at h
    have hfull : l.durable ++ l.pending = s ++ l.pending.extract n l.pending.size := by rw [← h, ByteArray.append_assoc, hp]
    refine ⟨?_, ?_, ?_⟩
    ·rw [← h, ByteArray.size_append]; omega
    ·obtain ⟨_, _, h9⟩ := jrh l.durable (l.pending.extract 0 n)
     rw [h] at h9
     omega
    ·obtain ⟨r, h9, _⟩ := jrh s (l.pending.extract n l.pending.size)
     rw [← hfull] at h9
     exact ⟨r, h9⟩
end Go.Proofs.YtflpcdffmpfdpaaGreatDoor
