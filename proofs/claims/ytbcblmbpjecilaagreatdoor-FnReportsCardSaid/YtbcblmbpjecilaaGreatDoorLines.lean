/- Lines of reports: IsReportLine, AreLines, as the program and as the reference have it. -/
import Derived.Test.YtbcblmbpjecilaaGreatDoorLine
import Derived.Test.YtbcblmbpjecilaaGreatDoorLib1
import Derived.Shelf.Abstract
namespace Go.Proofs.YtbcblmbpjecilaaGreatDoor
open Go.RowKit

def lineB (x : ReportLine) : Bool := wordB x.name && wordB x.club && inB x.status 0 3 && (if x.status = 0 then inB x.time 1 36000 else decide (x.time = 0))
theorem lineB0 : inB 0 0 3 = true := by decide
theorem lineB_status {x : ReportLine} (h : lineB x = true) : 0 ≤ x.status ∧ x.status ≤ 3 := by
  unfold lineB at h
  simp only [Bool.and_eq_true] at h
  exact inB_true h.1.2
def sameL (y x : ReportLine) : Bool := decide (y.name = x.name) && decide (y.club = x.club)
def GoodLines (xs : List ReportLine) : Prop := xs.length ≤ 12 ∧ ∀ (j : Nat) (hj : j < xs.length), lineB xs[j] = true ∧ (xs.take j).any (sameL · xs[j]) = false
instance (xs : List ReportLine) : Decidable (GoodLines xs) := by unfold GoodLines; infer_instance
def linesB (xs : List ReportLine) : Bool := decide (GoodLines xs)
theorem linesB_true {xs : List ReportLine} (h : GoodLines xs) : linesB xs = true := decide_eq_true h
theorem linesB_at {xs : List ReportLine} (h : linesB xs = true) : GoodLines xs := of_decide_eq_true h
theorem linesB_false {xs : List ReportLine} (h : ¬ GoodLines xs) : linesB xs = false := decide_eq_false h
theorem Sees.take_ {α : Type} {enc : α → List Value} {w : World} {lo s n : Nat} {A : Option Addr} {xs : List α} (h : Sees w lo s A n (xs.flatMap enc)) (hs : 0 < s) (henc : ∀ x, (enc x).length = s) (k : Nat) (hk : k ≤ n) : Sees w lo s A k ((xs.take k).flatMap enc) := by
  have hc := h.count hs henc
  refine ⟨by rw [flatMap_len _ (fun x _ => henc x), List.length_take]; congr 1; omega, fun hk0 => ?_⟩
  obtain ⟨b, off, e, h1, h2, h3⟩ := h.at' (by omega)
  refine ⟨b, off, e, h1, h2, fun j u hu => h3 j u ?_⟩
  have hj := (List.getElem?_eq_some_iff.1 hu).1
  conv => lhs; rw [← List.take_append_drop k xs, List.flatMap_append, List.getElem?_append_left hj]
  exact hu

set_option maxHeartbeats 400000 in
theorem IsReportLine_any (x : ReportLine) (w : World) (h : x.upto 9223372036854775807) : Calls Tryz.prog 36 #[.agg #[.string x.name, .string x.club, .int .i64 x.status, .int .i64 x.time]] w fun e w' => e = .returned (.bool (lineB x)) ∧ Below w.heap.size w w' := by
  unfold ReportLine.upto at h
  have hQ := True.intro
  go_enter Tryz.func36, Tryz.ntmps36
  go_wp2_with (first | (go_at_call 56; refine (isWord_any _ _ (by first | exact h.1 | exact h.2)).mono ?_; rintro e w' ⟨rfl, rfl⟩) | (go_at_call 29; refine (inside_any _ _ _ _).mono ?_; rintro e w' ⟨rfl, rfl⟩))
  all_goals go_ret
  all_goals refine ⟨ret_bool ?_, (Below.refl _ _).alloc (Nat.le_refl _) _⟩
  all_goals clear hQ
  all_goals first | (simp [lineB, *]; done) | (rw [Bool.eq_iff_iff]; by_cases h0 : x.status = 0 <;> simp_all [lineB, lineB0]; done)

set_option maxHeartbeats 400000 in
theorem l26One_any (x : ReportLine) (w : World) (h : x.upto 9223372036854775807) : Calls Tryz.prog 54 #[.agg #[.string x.name, .string x.club, .int .i64 x.status, .int .i64 x.time]] w fun e w' => e = .returned (.bool (lineB x)) ∧ Below w.heap.size w w' := by
  unfold ReportLine.upto at h
  have hQ := True.intro
  go_enter Tryz.func54, Tryz.ntmps54
  go_wp2_with (first | (go_at_call 75; refine (l2Word_any _ _ (by first | exact h.1 | exact h.2)).mono ?_; rintro e w' ⟨rfl, rfl⟩) | (go_at_call 25; refine (l1In_any _ _ _ _).mono ?_; rintro e w' ⟨rfl, rfl⟩))
  all_goals go_ret
  all_goals refine ⟨ret_bool ?_, (Below.refl _ _).alloc (Nat.le_refl _) _⟩
  all_goals clear hQ
  all_goals first | (simp [lineB, *]; done) | (rw [Bool.eq_iff_iff]; by_cases h0 : x.status = 0 <;> simp_all [lineB, lineB0]; done)

set_option maxRecDepth 100000 in
theorem IndexFunc_ReportLine (g : Nat) (lb : Array Value) (p : ReportLine → Bool) (A : Option Addr) (n c : Nat) (xs : List ReportLine) (w : World) (hx : Sees w 0 4 A n (xs.flatMap ReportLine.enc)) (hn : n ≤ 140737488355328) (hp : Answers g lb (fun x : ReportLine => .agg x.enc.toArray) p xs w) :
    Calls Tryz.prog 57 #[.slice A n c, .func (.func g) #[] lb] w fun e w' => ∃ r, e = .returned (.int .i64 r) ∧ FirstAt p xs r ∧ Below w.heap.size w w' := by
  have hl := hx.count (by decide) (fun _ => rfl)
  have eg := hp.enters
  go_enter Tryz.func57, Tryz.ntmps57
  go_wp2_with fail
  go_loopw [8] (fun v wr => ∃ k : Nat, k ≤ n ∧ v = .int .i64 k ∧ Hid ((xs.take k).any p = false) ∧ Below w.heap.size w wr) (fun v _ => n - (intOf v).toNat)
  case atStart => exact ⟨0, Nat.zero_le _, rfl, by simp [Hid], Below.refl _ _⟩
  case round =>
    obtain ⟨k, hk, rfl, ht, hb⟩ := hrel
    by_cases hlt : k < n
    · obtain ⟨b, off, rfl, hkx, c0, c1, c2, c3⟩ := (hx.next hb).elem4 (fun _ => rfl) hlt
      go_wp2_with fail
      refine (hp.at' k hkx _ hb).mono ?_
      cases hpk : p xs[k]
      · rintro e w1 ⟨rfl, b1⟩
        go_wp2_with fail
        go_roundw
        case rel => exact ⟨k + 1, by omega, by go_num, any_take_succ hkx ht.out hpk, bel_then hb b1⟩
        case measure => simp [intOf]; omega
      · rintro e w1 ⟨rfl, b1⟩
        go_wp2_with fail
        go_ret
        exact ⟨_, rfl, .inr ⟨k, rfl, hkx, hpk, ht.out⟩, bel_then hb b1⟩
    · go_wp2_with fail
      go_ret
      have h := ht.out
      rw [List.take_of_length_le (by omega)] at h
      exact ⟨_, rfl, .inl ⟨rfl, h⟩, hb⟩

theorem ContainsFunc_ReportLine (g : Nat) (lb : Array Value) (p : ReportLine → Bool) (A : Option Addr) (n c : Nat) (xs : List ReportLine) (w : World) (hx : Sees w 0 4 A n (xs.flatMap ReportLine.enc)) (hn : n ≤ 140737488355328) (hp : Answers g lb (fun x : ReportLine => .agg x.enc.toArray) p xs w) :
    Calls Tryz.prog 37 #[.slice A n c, .func (.func g) #[] lb] w fun e w' => e = .returned (.bool (xs.any p)) ∧ Below w.heap.size w w' := by
  go_enter Tryz.func37, Tryz.ntmps37
  go_wp2_with fail
  refine (IndexFunc_ReportLine g lb p A n c xs w hx hn hp).mono ?_
  rintro e w1 ⟨r, rfl, hr, b1⟩
  have hany := Lib.hid hr.any
  go_wp2_with fail
  all_goals go_ret
  all_goals exact ⟨ret_bool hany.out, b1⟩


theorem AreLines1_any (y x : ReportLine) (B : Nat) (w : World) (hc : w.cell? ⟨B, 0, none⟩ = some (.string x.name)) (hc1 : w.cell? ⟨B, 1, none⟩ = some (.string x.club)) (hB : B < w.heap.size) : Calls Tryz.prog 38 #[.agg #[.string y.name, .string y.club, .int .i64 y.status, .int .i64 y.time], .pointer (some ⟨B, 0, none⟩)] w fun e w' => e = .returned (.bool (sameL y x)) ∧ Below w.heap.size w w' := by
  have e1 := str_beq y.name x.name
  have e2 := str_beq y.club x.club
  go_enter Tryz.func38, Tryz.ntmps38
  go_wp2
  all_goals go_ret
  all_goals exact ⟨ret_bool (by clear e1 e2; simp [sameL, *]), (Below.refl _ _).alloc (Nat.le_refl _) _⟩

theorem AreLines1_answers (xs : List ReportLine) (x : ReportLine) (B : Nat) (w : World) (hc : Blk w B 41 x.enc) : Answers 38 #[.pointer (some ⟨B, 0, none⟩)] (fun x : ReportLine => .agg x.enc.toArray) (fun s => sameL s x) xs w :=
  ⟨enters_of Tryz.func38 (by kernel_rfl) rfl, fun i hi W hb => AreLines1_any xs[i] x B W ((hc.next hb).cell 0) ((hc.next hb).cell 1) (hc.next hb).lt⟩

set_option maxRecDepth 100000 in
set_option maxHeartbeats 1000000 in
theorem AreLines_any (A : Option Addr) (n c : Nat) (xs : List ReportLine) (w : World) (hx : Sees w 0 4 A n (xs.flatMap ReportLine.enc)) (hn : n ≤ 1048576) (hnc : n ≤ c) (hs : ∀ x ∈ xs, x.upto 9223372036854775807) :
    Calls Tryz.prog 15 #[.slice A n c] w fun e w' => e = .returned (.bool (linesB xs)) ∧ Below w.heap.size w w' := by
  have hl := hx.count (by decide) (fun _ => rfl)
  have hmf : ∀ (fn : Fn) (first cap : Array Value) (w : World), (Instr.makeFunc fn first cap).run Tryz.prog w = .ok (.func fn first cap) w := fun _ _ _ _ => rfl
  go_enter Tryz.func15, Tryz.ntmps15
  go_wp2_with fail
  go_loopw [7] (fun i wr => ∃ k : Nat, k ≤ n ∧ i = .int .i64 k ∧ Hid (∀ (j : Nat) (hj : j < xs.length), j < k → lineB xs[j] = true ∧ (xs.take j).any (sameL · xs[j]) = false) ∧ Below w.heap.size w wr) (fun i _ => n - (intOf i).toNat)
  case atStart => exact ⟨0, Nat.zero_le _, rfl, Lib.hid (fun j _ h => absurd h (by omega)), Below.refl _ _⟩
  case round =>
    obtain ⟨k, hk, rfl, HA, hb⟩ := hrel
    by_cases hlt : k < n
    · obtain ⟨b, off, rfl, hkx, x0, x1, x2, x3⟩ := (hx.next hb).elem4 (fun _ => rfl) hlt
      have hblt : b < wr.heap.size := World.block_lt_of_cell? wr _ x0
      have hsk := Lib.hid (hs xs[k] (List.getElem_mem hkx))
      go_wp2_with fail
      refine (IsReportLine_any xs[k] _ hsk.out).mono ?_
      cases g1 : lineB xs[k]
      · rintro e w1 ⟨rfl, b1⟩
        have HR := Lib.hid (linesB_false (xs := xs) (fun h => by have := (h.2 k hkx).1; rw [g1] at this; cases this))
        go_wp2_with fail
        go_ret
        exact ⟨ret_bool HR.out.symm, (hb.alloc hb.size _).trans (b1.mono (by simp; have := hb.size; omega))⟩
      · rintro e w1 ⟨rfl, b1⟩
        have B1 : Blk w1 wr.heap.size 41 xs[k].enc := (Blk.at_ rfl).next b1
        have K1 : Below w.heap.size w w1 := (hb.alloc hb.size _).trans (b1.mono (by simp; have := hb.size; omega))
        have hxk := (hx.next K1).take_ (by decide) (fun _ => rfl) k (by omega)
        go_wp2_with fail
        refine (ContainsFunc_ReportLine 38 #[.pointer (some ⟨wr.heap.size, 0, none⟩)] _ _ _ _ (xs.take k) _ hxk (by omega) (AreLines1_answers (xs.take k) xs[k] _ _ B1)).mono ?_
        cases g2 : (xs.take k).any (sameL · xs[k])
        · rintro e w2 ⟨rfl, b2⟩
          have HA' := Lib.hid (show ∀ (j : Nat) (hj : j < xs.length), j < k + 1 → lineB xs[j] = true ∧ (xs.take j).any (sameL · xs[j]) = false from fun j hj h => by
            by_cases hjk : j = k
            · subst hjk; exact ⟨g1, g2⟩
            · exact HA.out j hj (by omega))
          clear HA
          go_wp2_with fail
          go_roundw
          case rel => exact ⟨k + 1, by omega, by go_num, HA', bel_then K1 b2⟩
          case measure => simp [intOf]; omega
        · rintro e w2 ⟨rfl, b2⟩
          have HR := Lib.hid (linesB_false (xs := xs) (fun h => by have := (h.2 k hkx).2; rw [g2] at this; cases this))
          go_wp2_with fail
          go_ret
          exact ⟨ret_bool HR.out.symm, bel_then K1 b2⟩
    · have HR := Lib.hid (show linesB xs = decide (n ≤ 12) by
        by_cases h12 : n ≤ 12
        · rw [decide_eq_true h12]; exact linesB_true ⟨by omega, fun j hj => HA.out j hj (by omega)⟩
        · rw [decide_eq_false h12]; exact linesB_false (fun h => h12 (by have := h.1; omega)))
      clear HA
      go_wp2_with fail
      go_ret
      exact ⟨ret_bool (by rw [HR.out]; first | rfl | (rw [Bool.eq_iff_iff]; simp; try omega)), hb⟩

set_option maxRecDepth 100000 in
set_option maxHeartbeats 1000000 in
theorem l26Good_any (A : Option Addr) (n c : Nat) (xs : List ReportLine) (w : World) (hx : Sees w 0 4 A n (xs.flatMap ReportLine.enc)) (hn : n ≤ 1048576) (hs : ∀ x ∈ xs, x.upto 9223372036854775807) :
    Calls Tryz.prog 34 #[.slice A n c] w fun e w' => e = .returned (.bool (linesB xs)) ∧ Below w.heap.size w w' := by
  have hl := hx.count (by decide) (fun _ => rfl)
  go_enter Tryz.func34, Tryz.ntmps34
  go_wp2_with fail
  go_loopw [3, 4] (fun i _ wr => ∃ k : Nat, k ≤ n ∧ k ≤ 13 ∧ i = .int .i64 k ∧ Hid (∀ (j : Nat) (hj : j < xs.length), j < k → lineB xs[j] = true ∧ (xs.take j).any (sameL · xs[j]) = false) ∧ Below w.heap.size w wr) (fun i _ _ => n - (intOf i).toNat)
  case atStart => exact ⟨0, Nat.zero_le _, Nat.zero_le _, rfl, Lib.hid (fun j _ h => absurd h (by omega)), Below.refl _ _⟩
  case round =>
    obtain ⟨k, hk, hk13, rfl, HA, hb⟩ := hrel
    by_cases hlt : k < n
    · by_cases hlt13 : k ≤ 12
      · obtain ⟨b, off, rfl, hkx, x0, x1, x2, x3⟩ := (hx.next hb).elem4 (fun _ => rfl) hlt
        have hblt : b < wr.heap.size := World.block_lt_of_cell? wr _ x0
        have hsk := Lib.hid (hs xs[k] (List.getElem_mem hkx))
        go_wp2_with fail
        refine (l26One_any xs[k] _ hsk.out).mono ?_
        cases g1 : lineB xs[k]
        · rintro e w1 ⟨rfl, b1⟩
          have HR := Lib.hid (linesB_false (xs := xs) (fun h => by have := (h.2 k hkx).1; rw [g1] at this; cases this))
          go_wp2_with fail
          go_ret
          exact ⟨ret_bool HR.out.symm, bel_then hb b1⟩
        · rintro e w1 ⟨rfl, b1⟩
          have K1 := bel_then hb b1
          have G1 := Lib.hid g1
          clear g1 b1 x0 x1 x2 x3 hb hblt
          go_wp2_with fail
          go_loopw [4] (fun i wr => ∃ m : Nat, m ≤ k ∧ i = .int .i64 m ∧ Hid (∀ (j : Nat) (hj : j < xs.length), j < m → sameL xs[j] xs[k] = false) ∧ Below w.heap.size w wr) (fun i _ => k - (intOf i).toNat)
          case atStart => exact ⟨0, Nat.zero_le _, rfl, Lib.hid (fun j _ h => absurd h (by omega)), K1⟩
          case round =>
            obtain ⟨m, hm, rfl, HM, hb⟩ := hrel
            by_cases hmk : m < k
            · obtain ⟨b', off', he, hkx', x0, x1, x2, x3⟩ := (hx.next hb).elem4 (fun _ => rfl) hlt
              cases he
              obtain ⟨b', off', he, hmx, y0, y1, y2, y3⟩ := (hx.next hb).elem4 (fun _ => rfl) (show m < n by omega)
              cases he
              have hblt : b < wr.heap.size := World.block_lt_of_cell? wr _ x0
              by_cases hnm : xs[m].name = xs[k].name
              · by_cases hcl : xs[m].club = xs[k].club
                · have e1 : (xs[m].name.toList == xs[k].name.toList) = true := by rw [str_beq]; simp [hnm]
                  have e2 : (xs[m].club.toList == xs[k].club.toList) = true := by rw [str_beq]; simp [hcl]
                  have HR := Lib.hid (linesB_false (xs := xs) (fun h => by have h2 := (h.2 k hkx).2; rw [List.any_eq_false] at h2; exact h2 xs[m] (List.mem_take_iff_getElem.2 ⟨m, by omega, rfl⟩) (by simp [sameL, hnm, hcl])))
                  clear hnm hcl
                  go_wp2_with fail
                  go_quiet (fail)
                  go_wp2_with fail
                  go_ret
                  exact ⟨ret_bool HR.out.symm, bel_drewN hb _⟩
                · have e1 : (xs[m].name.toList == xs[k].name.toList) = true := by rw [str_beq]; simp [hnm]
                  have e2 : (xs[m].club.toList == xs[k].club.toList) = false := by rw [str_beq]; simp [hcl]
                  have HM' := Lib.hid (show ∀ (j : Nat) (hj : j < xs.length), j < m + 1 → sameL xs[j] xs[k] = false from fun j hj h => by
                    by_cases hjm : j = m
                    · subst hjm; simp [sameL, hnm, hcl]
                    · exact HM.out j hj (by omega))
                  clear hnm hcl
                  go_wp2_with fail
                  go_quiet (fail)
                  go_wp2_with fail
                  go_roundw
                  case rel => exact ⟨m + 1, by omega, by go_num, HM', bel_drewN hb _⟩
                  case measure => simp [intOf]; omega
              · have e1 : (xs[m].name.toList == xs[k].name.toList) = false := by rw [str_beq]; simp [hnm]
                have HM' := Lib.hid (show ∀ (j : Nat) (hj : j < xs.length), j < m + 1 → sameL xs[j] xs[k] = false from fun j hj h => by
                  by_cases hjm : j = m
                  · subst hjm; simp [sameL, hnm]
                  · exact HM.out j hj (by omega))
                clear hnm
                go_wp2_with fail
                go_quiet (fail)
                go_wp2_with fail
                go_roundw
                case rel => exact ⟨m + 1, by omega, by go_num, HM', bel_drewN hb _⟩
                case measure => simp [intOf]; omega
            · have HA' := Lib.hid (show ∀ (j : Nat) (hj : j < xs.length), j < k + 1 → lineB xs[j] = true ∧ (xs.take j).any (sameL · xs[j]) = false from fun j hj h => by
                by_cases hjk : j = k
                · subst hjk
                  refine ⟨G1.out, List.any_eq_false.2 fun y hy => ?_⟩
                  obtain ⟨i, hi, rfl⟩ := List.mem_take_iff_getElem.1 hy
                  rw [HM.out i (by omega) (by omega)]
                  decide
                · exact HA.out j hj (by omega))
              clear HA HM
              go_wp2_with fail
              go_roundw
              case rel => exact ⟨k + 1, by omega, by omega, by go_num, HA', hb⟩
              case measure => simp [intOf]; omega
      · have HR := Lib.hid (linesB_false (xs := xs) (fun h => by have := h.1; omega))
        clear HA
        go_wp2_with fail
        go_ret
        exact ⟨ret_bool (by rw [HR.out]; simp; omega), hb⟩
    · have HR := Lib.hid (show linesB xs = decide (n ≤ 12) by
        by_cases h12 : n ≤ 12
        · rw [decide_eq_true h12]; exact linesB_true ⟨by omega, fun j hj => HA.out j hj (by omega)⟩
        · rw [decide_eq_false h12]; exact linesB_false (fun h => h12 (by have := h.1; omega)))
      clear HA
      go_wp2_with fail
      go_ret
      exact ⟨ret_bool (by rw [HR.out]; first | rfl | (rw [Bool.eq_iff_iff]; simp; try omega)), hb⟩

end Go.Proofs.YtbcblmbpjecilaaGreatDoor
