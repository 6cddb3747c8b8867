/- IsValidLog, as the program and as the reference have it. -/
import Derived.Test.YtlhebjlibhpanaaDoorValidP
namespace Go.Proofs.YtlhebjlibhpanaaDoor
open Go.RowKit

def validL (l : Log) : Bool := decide ((allR (l.durable ++ l.pending)).at_ = l.durable.size + l.pending.size) && decide ((allR l.durable).at_ = l.durable.size) && decide (((allR (l.durable ++ l.pending)).l.length : Int) = l.count)

set_option maxRecDepth 100000 in
set_option maxHeartbeats 1000000 in
theorem l27Log_any (l : Log) (w : World) (hs : l.upto 1048576) :
    Calls Tryd.prog 25 #[.agg #[.string l.durable, .string l.pending, .int .i64 l.count]] w fun e w' => e = .returned (.bool (validL l)) ∧ Below w.heap.size w w' := by
  obtain ⟨h1, h2⟩ := hs
  have zs : (l.durable ++ l.pending).size = l.durable.size + l.pending.size := ByteArray.size_append
  have K0 : Below w.heap.size w (w.alloc (.cells #[.string l.durable, .string l.pending, .int .i64 l.count] 34)) := (Below.refl _ _).alloc (Nat.le_refl _) _
  have B0 : Blk (w.alloc (.cells #[.string l.durable, .string l.pending, .int .i64 l.count] 34)) w.heap.size 34 [.string l.durable, .string l.pending, .int .i64 l.count] := Blk.at_ rfl
  by_cases h3 : l.durable.size + l.pending.size ≤ 30000
  · go_enter Tryd.func25, Tryd.ntmps25
    go_wp2_with fail
    refine (l27Open_any (l.durable ++ l.pending) _ (by omega)).mono ?_
    rintro e w1 ⟨A, c, rfl, hA, b1⟩
    have K1 := bel_then K0 b1
    have B1 := B0.next b1
    have c1 := B1.cell
    go_wp2_with fail
    refine (l27Open_any l.durable _ (by omega)).mono ?_
    rintro e w2 ⟨A2, c2, rfl, hA2, b2⟩
    have K2 := bel_then K1 b2
    have B2 := B1.next b2
    have c2' := B2.cell
    have HR := Lib.hid (show validL l = (decide ((allR (l.durable ++ l.pending)).at_ = l.durable.size + l.pending.size) && decide ((allR l.durable).at_ = l.durable.size) && decide (((allR (l.durable ++ l.pending)).l.length : Int) = l.count)) from rfl)
    have HA := Lib.hid (allR_ok (l.durable ++ l.pending)).at_
    clear c1 hA hA2
    generalize allR (l.durable ++ l.pending) = x at *
    generalize allR l.durable = y at *
    by_cases e1 : x.at_ = l.durable.size + l.pending.size
    · have d1 : ((x.at_ : Int) == (l.durable.size : Int) + (l.pending.size : Int)) = true := beq_iff_eq.2 (by omega)
      by_cases e2 : y.at_ = l.durable.size
      · have d2 : ((y.at_ : Int) == (l.durable.size : Int)) = true := beq_iff_eq.2 (by omega)
        by_cases e3 : (x.l.length : Int) = l.count
        · have d3 : ((x.l.length : Int) == l.count) = true := beq_iff_eq.2 e3
          have HF := Lib.hid (show validL l = true by rw [HR.out, decide_eq_true e1, decide_eq_true e2, decide_eq_true e3]; rfl)
          clear HR e1 e2 e3
          go_wp2_with fail
          go_ret
          exact ⟨ret_bool HF.out.symm, bel_then K1 b2⟩
        · have d3 : ((x.l.length : Int) == l.count) = false := beq_eq_false_iff_ne.2 e3
          have HF := Lib.hid (show validL l = false by rw [HR.out, decide_eq_false e3]; simp)
          clear HR e1 e2 e3
          go_wp2_with fail
          go_ret
          exact ⟨ret_bool HF.out.symm, bel_then K1 b2⟩
      · have d2 : ((y.at_ : Int) == (l.durable.size : Int)) = false := beq_eq_false_iff_ne.2 (by omega)
        have HF := Lib.hid (show validL l = false by rw [HR.out, decide_eq_false e2]; simp)
        clear HR e1 e2
        go_wp2_with fail
        go_ret
        exact ⟨ret_bool HF.out.symm, bel_then K1 b2⟩
    · have d1 : ((x.at_ : Int) == (l.durable.size : Int) + (l.pending.size : Int)) = false := beq_eq_false_iff_ne.2 (by omega)
      have HF := Lib.hid (show validL l = false by rw [HR.out, decide_eq_false e1]; rfl)
      clear HR e1
      go_wp2_with fail
      go_ret
      exact ⟨ret_bool HF.out.symm, bel_then K1 b2⟩
  · have HR := Lib.hid (show validL l = false by
      have h4 := allR_size (l.durable ++ l.pending)
      unfold validL
      rw [decide_eq_false (by omega)]; rfl)
    go_enter Tryd.func25, Tryd.ntmps25
    go_wp2_with fail
    go_ret
    exact ⟨ret_bool HR.out.symm, K0⟩

set_option maxRecDepth 100000 in
set_option maxHeartbeats 2000000 in
theorem IsValidLog_any (l : Log) (w : World) (hs : l.upto 1048576) (hg : Gl w) :
    Calls Tryd.prog 18 #[.agg #[.string l.durable, .string l.pending, .int .i64 l.count]] w fun e w' => e = .returned (.bool (validL l)) ∧ Below w.heap.size w w' := by
  obtain ⟨h1, h2⟩ := hs
  have zs : (l.durable ++ l.pending).size = l.durable.size + l.pending.size := ByteArray.size_append
  have fs : ¬ 9223372036854775807 < l.durable.size + l.pending.size := by omega
  have K0 : Below w.heap.size w (w.alloc (.cells #[.string l.durable, .string l.pending, .int .i64 l.count] 34)) := (Below.refl _ _).alloc (Nat.le_refl _) _
  have B0 : Blk (w.alloc (.cells #[.string l.durable, .string l.pending, .int .i64 l.count] 34)) w.heap.size 34 [.string l.durable, .string l.pending, .int .i64 l.count] := Blk.at_ rfl
  go_enter Tryd.func18, Tryd.ntmps18
  go_wp2_with fail
  refine (readRecords_any (l.durable ++ l.pending) _ (by omega) (hg.next K0)).mono ?_
  rintro e w1 ⟨A, B, c, d, rfl, hA, hB, b1⟩
  have K1 := bel_then K0 b1
  have B1 := B0.next b1
  have c1 := B1.cell
  have hs2 : Sees w1 0 1 B ((allR (l.durable ++ l.pending)).l.length + 1) (natV (allR (l.durable ++ l.pending)).ends) := .of_own (own_base hB (Nat.zero_le _))
  obtain ⟨gb, off, rfl, g1, _, g2⟩ := hs2.at' (by omega)
  have hok := allR_ok (l.durable ++ l.pending)
  have x1 := g2 (allR (l.durable ++ l.pending)).l.length _ (natV_at hok.last)
  have hat := hok.at_
  have hln := hok.len
  have HE := Lib.hid hok.ends
  have HI := Lib.hid (ends_iff l.durable l.pending)
  have HR := Lib.hid (show validL l = (decide ((allR (l.durable ++ l.pending)).at_ = l.durable.size + l.pending.size) && decide ((allR l.durable).at_ = l.durable.size) && decide (((allR (l.durable ++ l.pending)).l.length : Int) = l.count)) from rfl)
  clear hok hs2 hA hB
  generalize allR (l.durable ++ l.pending) = x at *
  have HG := Lib.hid g2
  clear g2
  by_cases e1 : x.at_ = l.durable.size + l.pending.size
  · have d1 : ((x.at_ : Int) == (l.durable.size : Int) + (l.pending.size : Int)) = true := beq_iff_eq.2 (by omega)
    have d1' : ((x.at_ : Int) != (l.durable.size : Int) + (l.pending.size : Int)) = false := by rw [bne, d1]; rfl
    by_cases e3 : (x.l.length : Int) = l.count
    · have d3 : ((x.l.length : Int) == l.count) = true := beq_iff_eq.2 e3
      have d3' : ((x.l.length : Int) != l.count) = false := by rw [bne, d3]; rfl
      have HF := Lib.hid (show validL l = decide ((allR l.durable).at_ = l.durable.size) by rw [HR.out, decide_eq_true e1, decide_eq_true e3]; simp)
      clear HR e1 e3
      go_wp2_with fail
      go_loop [35] (fun i => ∃ k : Nat, k ≤ x.l.length + 1 ∧ i = .int .i64 (k : Int) ∧ Hid (∀ j, j < k → x.ends[j]? ≠ some l.durable.size)) (fun i => x.l.length + 1 - (intOf i).toNat)
      case atStart => exact ⟨0, Nat.zero_le _, rfl, Lib.hid (fun j h => absurd h (by omega))⟩
      case round =>
        obtain ⟨k, hk, rfl, HN⟩ := hrel
        by_cases hlt : k < x.l.length + 1
        · have hke : k < x.ends.length := by rw [HE.out]; exact hlt
          have hget : x.ends[k]? = some x.ends[k] := List.getElem?_eq_getElem hke
          have x2 := HG.out k _ (natV_at hget)
          by_cases hv : x.ends[k] = l.durable.size
          · have dv : ((x.ends[k] : Int) == (l.durable.size : Int)) = true := beq_iff_eq.2 (by omega)
            have HT := Lib.hid (show validL l = true by rw [HF.out, decide_eq_true (HI.out.1 (hv ▸ List.getElem_mem hke))])
            clear hget hv
            generalize x.ends[k] = v at *
            go_wp2_with fail
            go_ret
            exact ⟨ret_bool HT.out.symm, K1⟩
          · have dv : ((x.ends[k] : Int) == (l.durable.size : Int)) = false := beq_eq_false_iff_ne.2 (by omega)
            have HN2 := Lib.hid (show ∀ j, j < k + 1 → x.ends[j]? ≠ some l.durable.size by
              intro j hj
              by_cases hjk : j = k
              · subst hjk; rw [hget]; intro h; exact hv (Option.some.inj h)
              · exact HN.out j (by omega))
            clear hget hv
            generalize x.ends[k] = v at *
            go_wp2_with fail
            go_round
            case rel => exact ⟨k + 1, by omega, by go_num, HN2⟩
            case measure => simp [intOf]; omega
        · have HT := Lib.hid (show validL l = false by
            rw [HF.out, decide_eq_false]
            intro h
            obtain ⟨j, hj, hj2⟩ := List.getElem_of_mem (HI.out.2 h)
            have h5 := HE.out
            exact HN.out j (by omega) (by rw [List.getElem?_eq_getElem hj, hj2]))
          go_wp2_with fail
          go_ret
          exact ⟨ret_bool HT.out.symm, K1⟩
    · have d3 : ((x.l.length : Int) == l.count) = false := beq_eq_false_iff_ne.2 e3
      have d3' : ((x.l.length : Int) != l.count) = true := by rw [bne, d3]; rfl
      have HF := Lib.hid (show validL l = false by rw [HR.out, decide_eq_false e3]; simp)
      clear HR e1 e3
      go_wp2_with fail
      go_ret
      exact ⟨ret_bool HF.out.symm, K1⟩
  · have d1 : ((x.at_ : Int) == (l.durable.size : Int) + (l.pending.size : Int)) = false := beq_eq_false_iff_ne.2 (by omega)
    have d1' : ((x.at_ : Int) != (l.durable.size : Int) + (l.pending.size : Int)) = true := by rw [bne, d1]; rfl
    have HF := Lib.hid (show validL l = false by rw [HR.out, decide_eq_false e1]; rfl)
    clear HR e1
    go_wp2_with fail
    go_ret
    exact ⟨ret_bool HF.out.symm, K1⟩

end Go.Proofs.YtlhebjlibhpanaaDoor
