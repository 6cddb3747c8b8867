/- CrashLog, as the program and as the reference have it. -/
import Derived.Test.YtjangfhelagjnaaDoorAppL
import Derived.Laws.IdiomStrings
namespace Go.Proofs.YtjangfhelagjnaaDoor
open Go.RowKit

/-- The last byte of a text turned over. -/
def tornT (s : ByteArray) : ByteArray := ⟨(s.data.toList.set (s.size - 1) (255 - s.data.toList.getD (s.size - 1) 0)).toArray⟩
def crashL (l : Log) (k : Int) (t : Bool) : ByteArray × Bool := if validL l && inB k 0 l.pending.size then (l.durable ++ (if t && decide (0 < k) then tornT (l.pending.extract 0 k.toNat) else l.pending.extract 0 k.toNat), true) else (⟨#[]⟩, false)
theorem tornT_size (s : ByteArray) : (tornT s).size = s.size := by
  show (s.data.toList.set (s.size - 1) (255 - s.data.toList.getD (s.size - 1) 0)).toArray.size = s.data.size
  simp
/-- A text as bytes: in a new block. -/
theorem conv_bytes (s : ByteArray) (w : World) : ∃ (C : Array Value) (cap : Nat), (convert 9 53 (.string s)).run Tryd.prog w = .ok (.slice (some ⟨w.heap.size, 0, none⟩) s.size cap) (w.drew.alloc (.cells C 5 (C.size, C.size + 1)))
    ∧ (∀ i (h : i < s.size), C[i]? = some (.int .u8 (s[i].toNat : Int))) ∧ s.size ≤ C.size ∧ s.size ≤ cap := by
  refine ⟨_, _, run_bytes_of_string (P := Tryd.prog) w 9 53 5 s Tryd.underlying9 Tryd.underlying53 Tryd.underlying5, fun i h => bytesRow_at s _ i h, ?_, ?_⟩
  · simp [bytesRow]
  · exact grownCap_ge w s.size 0 5

theorem torn_back (s : ByteArray) (w : World) (g cap : Nat) (x : Int) (h : 0 < s.size) (hx : ∀ h' : s.size - 1 < s.size, x = (s[s.size - 1].toNat : Int)) (hw : ∀ i (h : i < s.size), w.cell? ⟨g, i, none⟩ = some (if i = s.size - 1 then .int .u8 (255 - x) else .int .u8 (s[i].toNat : Int))) :
    (convert 53 9 (.slice (some ⟨g, 0, none⟩) s.size cap)).run Tryd.prog w = .ok (.string (tornT s)) w := by
  have hl : (s.data.toList.set (s.size - 1) (255 - s.data.toList.getD (s.size - 1) 0)).length = s.size := by
    rw [List.length_set]; exact Array.length_toList
  have hd : s.data.toList.length = s.size := Array.length_toList
  have hb := run_convert_bytes_back (P := Tryd.prog) w 53 9 5 ⟨g, 0, none⟩ cap (s.data.toList.set (s.size - 1) (255 - s.data.toList.getD (s.size - 1) 0)) Tryd.underlying53 Tryd.underlying5 Tryd.underlying9 (fun j hj => by
    have hadd : (⟨g, 0, none⟩ : Addr).add j = ⟨g, j, none⟩ := by unfold Addr.add; split <;> simp_all
    have hj' : j < s.size := by omega
    rw [hadd, hw j hj']
    by_cases e : j = s.size - 1
    · subst e
      rw [if_pos rfl, hx hj']
      simp only [List.getElem_set_self]
      rw [List.getD_eq_getElem?_getD, List.getElem?_eq_getElem (by omega), Option.getD_some]
      have h1 : (s.data.toList[s.size - 1]'(by omega)) = s[s.size - 1] := rfl
      rw [h1]
      have h2 := s[s.size - 1].toNat_lt
      rw [UInt8.toNat_sub_of_le _ _ (by rw [UInt8.le_iff_toNat_le]; have : (255 : UInt8).toNat = 255 := rfl; omega)]
      have : (255 : UInt8).toNat = 255 := rfl
      rw [this]
      congr 2
      omega
    · rw [if_neg e, List.getElem_set_ne (by omega)]
      rfl)
  rw [hl] at hb
  exact hb
theorem whole_back (s : ByteArray) (w : World) (g cap : Nat) (hw : ∀ i (h : i < s.size), w.cell? ⟨g, i, none⟩ = some (.int .u8 (s[i].toNat : Int))) :
    (convert 53 9 (.slice (some ⟨g, 0, none⟩) s.size cap)).run Tryd.prog w = .ok (.string s) w := by
  have hd : s.data.toList.length = s.size := Array.length_toList
  have hb := run_convert_bytes_back (P := Tryd.prog) w 53 9 5 ⟨g, 0, none⟩ cap s.data.toList Tryd.underlying53 Tryd.underlying5 Tryd.underlying9 (fun j hj => by
    have hadd : (⟨g, 0, none⟩ : Addr).add j = ⟨g, j, none⟩ := by unfold Addr.add; split <;> simp_all
    rw [hadd, hw j (by omega)]
    rfl)
  rw [hd] at hb
  exact hb

set_option maxRecDepth 100000 in
set_option maxHeartbeats 2000000 in
theorem CrashLog_any (l : Log) (k : Int) (t : Bool) (w : World) (hs : l.upto 1048576) (hg : Gl w) :
    Calls Tryd.prog 25 #[.agg #[.string l.durable, .string l.pending, .int .i64 l.count], .int .i64 k, .bool t] w (GivesText w (crashL l k t)) := by
  have ⟨h1, h2⟩ := hs
  have K0 : Below w.heap.size w (w.alloc (.cells #[.string l.durable, .string l.pending, .int .i64 l.count] 31)) := (Below.refl _ _).alloc (Nat.le_refl _) _
  have B0 : Blk (w.alloc (.cells #[.string l.durable, .string l.pending, .int .i64 l.count] 31)) w.heap.size 31 [.string l.durable, .string l.pending, .int .i64 l.count] := Blk.at_ rfl
  cases hv : validL l
  · have HR := Lib.hid (show crashL l k t = (⟨#[]⟩, false) by simp [crashL, hv])
    have HV := Lib.hid hv
    clear hv
    go_enter Tryd.func25, Tryd.ntmps25
    go_wp2_with fail
    refine (IsValidLog_any l _ hs (hg.next K0)).mono ?_
    rintro e w1 ⟨rfl, b1⟩
    rw [HV.out]
    have K1 := bel_then K0 b1
    go_wp2_with fail
    go_ret2
    rw [HR.out]
    exact ⟨rfl, K1⟩
  have HV := Lib.hid hv
  cases hi : inB k 0 l.pending.size
  · have HR := Lib.hid (show crashL l k t = (⟨#[]⟩, false) by simp [crashL, hi])
    have HI := Lib.hid hi
    clear hv hi
    go_enter Tryd.func25, Tryd.ntmps25
    go_wp2_with fail
    refine (IsValidLog_any l _ hs (hg.next K0)).mono ?_
    rintro e w1 ⟨rfl, b1⟩
    rw [HV.out]
    have K1 := bel_then K0 b1
    have c1 := (B0.next b1).cell
    go_wp2_with fail
    refine (inside_any _ _ _ _).mono ?_
    rintro e w' ⟨rfl, rfl⟩
    rw [HI.out]
    go_wp2_with fail
    go_ret2
    rw [HR.out]
    exact ⟨rfl, K1⟩
  have HI := Lib.hid hi
  obtain ⟨i1, i2⟩ := inB_true hi
  obtain ⟨n, rfl⟩ := Int.eq_ofNat_of_zero_le i1
  have hsz : (l.pending.extract 0 n).size = n := by simp; omega
  have HS := Lib.hid hsz
  have HR0 := Lib.hid (show crashL l n t = (l.durable ++ (if t && decide (0 < (n : Int)) then tornT (l.pending.extract 0 n) else l.pending.extract 0 n), true) by simp [crashL, hv, hi])
  clear hv hi i1 hsz
  go_enter Tryd.func25, Tryd.ntmps25
  go_wp2_with fail
  refine (IsValidLog_any l _ hs (hg.next K0)).mono ?_
  rintro e w1 ⟨rfl, b1⟩
  rw [HV.out]
  have K1 := bel_then K0 b1
  have B1 := B0.next b1
  have c1 := B1.cell
  have lt1 := B1.lt
  go_wp2_with fail
  refine (inside_any _ _ _ _).mono ?_
  rintro e w' ⟨rfl, rfl⟩
  rw [HI.out]
  obtain ⟨C, cap, hconv, hC, hCs, hcap⟩ := conv_bytes (l.pending.extract 0 n) w1
  rw [HS.out] at hconv hcap
  have hcell : ∀ i (h : i < (l.pending.extract 0 n).size), (w1.alloc (.cells C 5 (C.size, C.size + 1))).cell? ⟨w1.heap.size, i, none⟩ = some (.int .u8 ((l.pending.extract 0 n)[i].toNat : Int)) := fun i h => by rw [World.cell?_alloc_mark]; exact hC i h
  have hne : w1.heap.size ≠ w.heap.size := by omega
  have hne' : w.heap.size ≠ w1.heap.size := by omega
  have fs : ¬ 9223372036854775807 < l.durable.size + n := by omega
  have ft : ¬ 9223372036854775807 < l.durable.size + (tornT (l.pending.extract 0 n)).size := by rw [tornT_size, HS.out]; omega
  have KE := (K1.alloc K1.size (.cells C 5 (C.size, C.size + 1)))
  by_cases ht : t = true ∧ 0 < n
  · obtain ⟨rfl, hn⟩ := ht
    have HR := Lib.hid (show crashL l n true = (l.durable ++ tornT (l.pending.extract 0 n), true) by rw [HR0.out]; simp [hn])
    have hlt : n - 1 < (l.pending.extract 0 n).size := by rw [HS.out]; omega
    obtain ⟨x, hx⟩ : ∃ x : Int, x = ((l.pending.extract 0 n)[n - 1].toNat : Int) := ⟨_, rfl⟩
    have c0 : (w1.alloc (.cells C 5 (C.size, C.size + 1))).cell? ⟨w1.heap.size, n - 1, none⟩ = some (.int .u8 x) := by rw [hcell _ hlt, hx]
    have z0 : (w1.alloc (.cells C 5 (C.size, C.size + 1))).frozen? ⟨w1.heap.size, n - 1, none⟩ = false := by
      rw [World.frozen?_alloc_mark]
      simp
      omega
    have x0 : 0 ≤ x := by omega
    have x1 : x ≤ 255 := by have := (l.pending.extract 0 n)[n - 1].toNat_lt; omega
    have hback := torn_back (l.pending.extract 0 n) ((w1.alloc (.cells C 5 (C.size, C.size + 1))).setCell ⟨w1.heap.size, n - 1, none⟩ (.int .u8 (255 - x))).drew w1.heap.size cap x (by rw [HS.out]; exact hn) (fun h' => by rw [hx]; congr 3; rw [HS.out]) (fun i h => by
      show ((w1.alloc (.cells C 5 (C.size, C.size + 1))).setCell ⟨w1.heap.size, n - 1, none⟩ (.int .u8 (255 - x))).cell? ⟨w1.heap.size, i, none⟩ = _
      by_cases e : i = n - 1
      · rw [if_pos (by rw [HS.out]; exact e), e]
        exact World.cell?_setCell_same _ _ _ c0
      · rw [if_neg (by rw [HS.out]; exact e), World.cell?_setCell_other _ _ _ _ (by simp only [ne_eq, Addr.mk.injEq, true_and, and_true]; omega)]
        exact hcell i h)
    rw [HS.out] at hback
    clear hcell hC hx
    go_wp2_with fail
    go_ret2
    rw [HR.out]
    exact ⟨rfl, bel_quiet (KE.setCell (p := ⟨w1.heap.size, n - 1, none⟩) K1.size _) (Quiet.one _)⟩
  · have HR := Lib.hid (show crashL l n t = (l.durable ++ l.pending.extract 0 n, true) by
      rw [HR0.out]
      have : (t && decide (0 < (n : Int))) = false := by
        cases t
        · rfl
        · simp at ht ⊢; omega
      rw [this]; rfl)
    have hback := whole_back (l.pending.extract 0 n) (w1.alloc (.cells C 5 (C.size, C.size + 1))).drew w1.heap.size cap hcell
    rw [HS.out] at hback
    clear hcell hC
    cases t
    · clear ht
      go_wp2_with fail
      go_ret2
      rw [HR.out]
      exact ⟨rfl, bel_quiet KE (Quiet.one _)⟩
    · have hn : ¬ 0 < n := fun h => ht ⟨rfl, h⟩
      clear ht
      go_wp2_with fail
      go_ret2
      rw [HR.out]
      exact ⟨rfl, bel_quiet KE (Quiet.one _)⟩

set_option maxRecDepth 100000 in
set_option maxHeartbeats 2000000 in
theorem specCrashLog_any (l : Log) (k : Int) (t : Bool) (w : World) (hs : l.upto 1048576) :
    Calls Tryd.prog 24 #[.agg #[.string l.durable, .string l.pending, .int .i64 l.count], .int .i64 k, .bool t] w (GivesText w (crashL l k t)) := by
  have ⟨h1, h2⟩ := hs
  have K0 : Below w.heap.size w (w.alloc (.cells #[.string l.durable, .string l.pending, .int .i64 l.count] 31)) := (Below.refl _ _).alloc (Nat.le_refl _) _
  have B0 : Blk (w.alloc (.cells #[.string l.durable, .string l.pending, .int .i64 l.count] 31)) w.heap.size 31 [.string l.durable, .string l.pending, .int .i64 l.count] := Blk.at_ rfl
  cases hv : validL l
  · have HR := Lib.hid (show crashL l k t = (⟨#[]⟩, false) by simp [crashL, hv])
    have HV := Lib.hid hv
    clear hv
    go_enter Tryd.func24, Tryd.ntmps24
    go_wp2_with fail
    refine (l27Log_any l _ hs).mono ?_
    rintro e w1 ⟨rfl, b1⟩
    rw [HV.out]
    have K1 := bel_then K0 b1
    go_wp2_with fail
    go_ret2
    rw [HR.out]
    exact ⟨rfl, K1⟩
  have HV := Lib.hid hv
  cases hi : inB k 0 l.pending.size
  · have HR := Lib.hid (show crashL l k t = (⟨#[]⟩, false) by simp [crashL, hi])
    have HI := Lib.hid hi
    clear hv hi
    go_enter Tryd.func24, Tryd.ntmps24
    go_wp2_with fail
    refine (l27Log_any l _ hs).mono ?_
    rintro e w1 ⟨rfl, b1⟩
    rw [HV.out]
    have K1 := bel_then K0 b1
    have c1 := (B0.next b1).cell
    go_wp2_with fail
    refine (l1In_any _ _ _ _).mono ?_
    rintro e w' ⟨rfl, rfl⟩
    rw [HI.out]
    go_wp2_with fail
    go_ret2
    rw [HR.out]
    exact ⟨rfl, K1⟩
  have HI := Lib.hid hi
  obtain ⟨i1, i2⟩ := inB_true hi
  obtain ⟨n, rfl⟩ := Int.eq_ofNat_of_zero_le i1
  have hsz : (l.pending.extract 0 n).size = n := by simp; omega
  have HS := Lib.hid hsz
  have HR0 := Lib.hid (show crashL l n t = (l.durable ++ (if t && decide (0 < (n : Int)) then tornT (l.pending.extract 0 n) else l.pending.extract 0 n), true) by simp [crashL, hv, hi])
  clear hv hi i1 hsz
  go_enter Tryd.func24, Tryd.ntmps24
  go_wp2_with fail
  refine (l27Log_any l _ hs).mono ?_
  rintro e w1 ⟨rfl, b1⟩
  rw [HV.out]
  have K1 := bel_then K0 b1
  have B1 := B0.next b1
  have c1 := B1.cell
  have lt1 := B1.lt
  go_wp2_with fail
  refine (l1In_any _ _ _ _).mono ?_
  rintro e w' ⟨rfl, rfl⟩
  rw [HI.out]
  obtain ⟨C, cap, hconv, hC, hCs, hcap⟩ := conv_bytes (l.pending.extract 0 n) w1
  rw [HS.out] at hconv hcap
  have hcell : ∀ i (h : i < (l.pending.extract 0 n).size), (w1.alloc (.cells C 5 (C.size, C.size + 1))).cell? ⟨w1.heap.size, i, none⟩ = some (.int .u8 ((l.pending.extract 0 n)[i].toNat : Int)) := fun i h => by rw [World.cell?_alloc_mark]; exact hC i h
  have hne : w1.heap.size ≠ w.heap.size := by omega
  have hne' : w.heap.size ≠ w1.heap.size := by omega
  have fs : ¬ 9223372036854775807 < l.durable.size + n := by omega
  have ft : ¬ 9223372036854775807 < l.durable.size + (tornT (l.pending.extract 0 n)).size := by rw [tornT_size, HS.out]; omega
  have KE := (K1.alloc K1.size (.cells C 5 (C.size, C.size + 1)))
  by_cases ht : t = true ∧ 0 < n
  · obtain ⟨rfl, hn⟩ := ht
    have HR := Lib.hid (show crashL l n true = (l.durable ++ tornT (l.pending.extract 0 n), true) by rw [HR0.out]; simp [hn])
    have hlt : n - 1 < (l.pending.extract 0 n).size := by rw [HS.out]; omega
    obtain ⟨x, hx⟩ : ∃ x : Int, x = ((l.pending.extract 0 n)[n - 1].toNat : Int) := ⟨_, rfl⟩
    have c0 : (w1.alloc (.cells C 5 (C.size, C.size + 1))).cell? ⟨w1.heap.size, n - 1, none⟩ = some (.int .u8 x) := by rw [hcell _ hlt, hx]
    have z0 : (w1.alloc (.cells C 5 (C.size, C.size + 1))).frozen? ⟨w1.heap.size, n - 1, none⟩ = false := by
      rw [World.frozen?_alloc_mark]
      simp
      omega
    have x0 : 0 ≤ x := by omega
    have x1 : x ≤ 255 := by have := (l.pending.extract 0 n)[n - 1].toNat_lt; omega
    have hback := torn_back (l.pending.extract 0 n) ((w1.alloc (.cells C 5 (C.size, C.size + 1))).setCell ⟨w1.heap.size, n - 1, none⟩ (.int .u8 (255 - x))).drew w1.heap.size cap x (by rw [HS.out]; exact hn) (fun h' => by rw [hx]; congr 3; rw [HS.out]) (fun i h => by
      show ((w1.alloc (.cells C 5 (C.size, C.size + 1))).setCell ⟨w1.heap.size, n - 1, none⟩ (.int .u8 (255 - x))).cell? ⟨w1.heap.size, i, none⟩ = _
      by_cases e : i = n - 1
      · rw [if_pos (by rw [HS.out]; exact e), e]
        exact World.cell?_setCell_same _ _ _ c0
      · rw [if_neg (by rw [HS.out]; exact e), World.cell?_setCell_other _ _ _ _ (by simp only [ne_eq, Addr.mk.injEq, true_and, and_true]; omega)]
        exact hcell i h)
    rw [HS.out] at hback
    clear hcell hC hx
    go_wp2_with fail
    go_ret2
    rw [HR.out]
    exact ⟨rfl, bel_quiet (KE.setCell (p := ⟨w1.heap.size, n - 1, none⟩) K1.size _) (Quiet.one _)⟩
  · have HR := Lib.hid (show crashL l n t = (l.durable ++ l.pending.extract 0 n, true) by
      rw [HR0.out]
      have : (t && decide (0 < (n : Int))) = false := by
        cases t
        · rfl
        · simp at ht ⊢; omega
      rw [this]; rfl)
    have hback := whole_back (l.pending.extract 0 n) (w1.alloc (.cells C 5 (C.size, C.size + 1))).drew w1.heap.size cap hcell
    rw [HS.out] at hback
    clear hcell hC
    cases t
    · clear ht
      go_wp2_with fail
      go_ret2
      rw [HR.out]
      exact ⟨rfl, bel_quiet KE (Quiet.one _)⟩
    · have hn : ¬ 0 < n := fun h => ht ⟨rfl, h⟩
      clear ht
      go_wp2_with fail
      go_ret2
      rw [HR.out]
      exact ⟨rfl, bel_quiet KE (Quiet.one _)⟩

end Go.Proofs.YtjangfhelagjnaaDoor
