/- WaitingFor, as the program and as the reference have it. -/
import Derived.Test.YtkeffhnkhmalpaaDeskI
import Derived.Test.YtkeffhnkhmalpaaDeskG
import Derived.Test.YtkeffhnkhmalpaaDelF
import Derived.Test.YtkeffhnkhmalpaaCopy
namespace Go.Proofs.Ytkeffhnkhmalpaa
open Go.RowKit

def waitTo (d : DeskV) (k : Nat) : List Int := (d.known.take k).filter fun v => !doneB d.done v
def waitM (d : DeskV) : Option (List Int) := if deskB d then some (d.known.filter fun v => !doneB d.done v) else none
theorem waitM_len (d : DeskV) : ((waitM d).getD []).length ≤ d.known.length := by
  unfold waitM
  split
  · exact List.length_filter_le _ _
  · simp
theorem deskB_top {d : DeskV} (h : deskB d = true) : d.known.length ≤ 8 ∧ d.queue.length + d.done.length + d.trouble.length ≤ 10 := by
  unfold deskB topB at h
  simp only [Bool.and_eq_true, decide_eq_true_eq] at h
  exact ⟨h.1.1.1.1.1.2, h.1.2⟩
theorem waitTo_next (d : DeskV) {k : Nat} (hk : k < d.known.length) : waitTo d (k + 1) = if doneB d.done d.known[k] then waitTo d k else waitTo d k ++ [d.known[k]] := by
  unfold waitTo
  rw [filter_next hk]
  cases doneB d.done d.known[k] <;> simp
theorem own_low {w : World} {base base' t s n c : Nat} {A : Option Addr} {cs : List Value} (h : w.ownsRow base t s (.slice A n c) n cs) (hb : base' ≤ base) : w.ownsRow base' t s (.slice A n c) n cs :=
  ⟨h.1, h.2.imp id fun ⟨g, cap, cur, h1, h2, h3⟩ => ⟨g, cap, cur, h1, Nat.le_trans hb h2, h3⟩⟩

theorem WaitingFor1_any (h : DeskH) (rows : List DeskRow) (v : Int) (B : Nat) (w : World) (hx : Sees w 0 3 h.A3 h.n3 (rows.flatMap DeskRow.enc)) (hn : h.n3 ≤ 1048576) (hB : Blk w B 32 [.slice h.A0 h.n0 h.c0, .slice h.A1 h.n1 h.c1, .slice h.A2 h.n2 h.c2, .slice h.A3 h.n3 h.c3, .slice h.A4 h.n4 h.c4]) :
    Calls Try.prog 54 #[.int .i64 v, .pointer (some ⟨B, 0, none⟩)] w fun e w' => e = .returned (.bool (doneB rows v)) ∧ Below w.heap.size w w' := by
  have c1 := hB.cell
  go_enter Try.func54, Try.ntmps54
  go_wp2_with fail
  refine (isDone_any _ _ h.c3 rows v _ hx hn).mono ?_
  rintro e w1 ⟨rfl, b1⟩
  go_wp2_with fail
  go_ret
  exact ⟨rfl, b1⟩
theorem WaitingFor1_answers (h : DeskH) (rows : List DeskRow) (xs : List Int) (B : Nat) (A : Option Addr) (w0 w : World) (hx : Sees w0 0 3 h.A3 h.n3 (rows.flatMap DeskRow.enc)) (hn : h.n3 ≤ 1048576) (hB : Blk w0 B 32 [.slice h.A0 h.n0 h.c0, .slice h.A1 h.n1 h.c1, .slice h.A2 h.n2 h.c2, .slice h.A3 h.n3 h.c3, .slice h.A4 h.n4 h.c4]) (hA : ∀ b, OwnB A b → w0.heap.size ≤ b) (hw : Below w0.heap.size w0 w) :
    AnswersO 54 #[.pointer (some ⟨B, 0, none⟩)] (Value.int .i64) (doneB rows) xs (OwnB A) w :=
  ⟨enters_of Try.func54 (by kernel_rfl) rfl, fun x _ W hb => by
    have h2 : Below w0.heap.size w0 W := hw.trans (hb.below hA hw.size)
    exact WaitingFor1_any h rows x B W (hx.below h2 (Nat.le_refl _)) hn (hB.next h2)⟩

set_option maxRecDepth 100000 in
set_option maxHeartbeats 1000000 in
theorem WaitingFor_any (h : DeskH) (d : DeskV) (w : World) (hs : SeesDesk w 0 h d) (hn : DeskFit 1048576 h d) (hcap : h.n3 ≤ h.c3) :
    Calls Try.prog 22 #[.agg #[.slice h.A0 h.n0 h.c0, .slice h.A1 h.n1 h.c1, .slice h.A2 h.n2 h.c2, .slice h.A3 h.n3 h.c3, .slice h.A4 h.n4 h.c4]] w (GivesInts w (waitM d)) := by
  have hmf : ∀ (fn : Fn) (first cap : Array Value) (w : World), (Instr.makeFunc fn first cap).run Try.prog w = .ok (.func fn first cap) w := fun _ _ _ _ => rfl
  have K0 : Below w.heap.size w (w.alloc (.cells #[.slice h.A0 h.n0 h.c0, .slice h.A1 h.n1 h.c1, .slice h.A2 h.n2 h.c2, .slice h.A3 h.n3 h.c3, .slice h.A4 h.n4 h.c4] 32)) := (Below.refl _ _).alloc (Nat.le_refl _) _
  have P0 : Blk (w.alloc (.cells #[.slice h.A0 h.n0 h.c0, .slice h.A1 h.n1 h.c1, .slice h.A2 h.n2 h.c2, .slice h.A3 h.n3 h.c3, .slice h.A4 h.n4 h.c4] 32)) w.heap.size 32 [.slice h.A0 h.n0 h.c0, .slice h.A1 h.n1 h.c1, .slice h.A2 h.n2 h.c2, .slice h.A3 h.n3 h.c3, .slice h.A4 h.n4 h.c4] := Blk.at_ rfl
  go_enter Try.func22, Try.ntmps22
  go_wp2_with fail
  refine (IsDesk_any h d _ (hs.next K0) hn hcap).mono ?_
  cases g : deskB d
  · rintro e w1 ⟨rfl, b1⟩
    go_wp2_with fail
    go_ret2
    rw [show waitM d = none by simp [waitM, g]]
    exact gives_nil (bel_then K0 b1)
  · rintro e w1 ⟨rfl, b1⟩
    have HR := Lib.hid (show waitM d = some (d.known.filter fun v => !doneB d.done v) by simp [waitM, g])
    have ht := (deskB_top g).1
    have K1 := bel_then K0 b1
    have P1 := P0.next b1
    have c1 := P1.cell
    have hx1 := (hs.next K1).f3
    clear g
    go_wp2_with fail
    refine (copyInts_any _ _ _ 0 d.known _ (hs.f1.next K1) hn.n1).mono ?_
    rintro e w2 ⟨A, c, rfl, o2, b2⟩
    have K2 := bel_then K1 b2
    have P2 := P1.next b2
    have ans := WaitingFor1_answers h d.done d.known w.heap.size A w1 w2 hx1 hn.n3 P1 (fun b hb => (own_top o2 hb).1) b2
    clear c1
    go_wp2_with fail
    refine (DeleteFunc_int 54 #[.pointer (some ⟨w.heap.size, 0, none⟩)] (doneB d.done) w1.heap.size 3 d.known.length c A d.known w2 o2 (by omega) ans).mono ?_
    rintro e w3 ⟨rfl, o3, O3⟩
    have K3 : Below w.heap.size w w3 := K2.trans (O3.below (fun b hb => Nat.le_trans K1.size (own_top o2 hb).1) K2.size)
    have o4 := own_low o3 K1.size
    clear ans o2 o3
    go_wp2_with fail
    go_ret2
    rw [HR.out]
    exact ⟨A, c, rfl, o4, K3⟩

set_option maxRecDepth 100000 in
set_option maxHeartbeats 2000000 in
theorem specWaitingFor_any (h : DeskH) (d : DeskV) (w : World) (hs : SeesDesk w 0 h d) (hn : DeskFit 1048576 h d) (hcap : h.n3 ≤ h.c3) :
    Calls Try.prog 21 #[.agg #[.slice h.A0 h.n0 h.c0, .slice h.A1 h.n1 h.c1, .slice h.A2 h.n2 h.c2, .slice h.A3 h.n3 h.c3, .slice h.A4 h.n4 h.c4]] w (GivesInts w (waitM d)) := by
  have K0 : Below w.heap.size w ((w.alloc (.cells #[.slice h.A0 h.n0 h.c0, .slice h.A1 h.n1 h.c1, .slice h.A2 h.n2 h.c2, .slice h.A3 h.n3 h.c3, .slice h.A4 h.n4 h.c4] 32)).alloc (.cells #[] 3)) := ((Below.refl _ _).alloc (Nat.le_refl _) _).alloc (by simp) _
  have P0 : Blk ((w.alloc (.cells #[.slice h.A0 h.n0 h.c0, .slice h.A1 h.n1 h.c1, .slice h.A2 h.n2 h.c2, .slice h.A3 h.n3 h.c3, .slice h.A4 h.n4 h.c4] 32)).alloc (.cells #[] 3)) w.heap.size 32 [.slice h.A0 h.n0 h.c0, .slice h.A1 h.n1 h.c1, .slice h.A2 h.n2 h.c2, .slice h.A3 h.n3 h.c3, .slice h.A4 h.n4 h.c4] := (Blk.at_ rfl).alloc _
  have o0 := own_empty_at (w := (w.alloc (.cells #[.slice h.A0 h.n0 h.c0, .slice h.A1 h.n1 h.c1, .slice h.A2 h.n2 h.c2, .slice h.A3 h.n3 h.c3, .slice h.A4 h.n4 h.c4] 32))) (g := w.heap.size + 1) 3 1 (by simp)
  have HL1 := Lib.hid hs.f1.icount
  have hl1a : d.known.length ≤ h.n1 := by rw [HL1.out]; exact Nat.le_refl _
  have hl1b : h.n1 ≤ d.known.length := by rw [HL1.out]; exact Nat.le_refl _
  have HS3 := hs.f3
  have hn1 := hn.n1
  have hn3 := hn.n3
  go_enter Try.func21, Try.ntmps21
  go_wp2_with fail
  refine (l25Good_any h d _ (hs.next K0) hn hcap).mono ?_
  cases g : deskB d
  · rintro e w1 ⟨rfl, b1⟩
    have o1 := own_low (own_below o0 b1) (show w.heap.size ≤ w.heap.size + 1 by omega)
    clear o0
    go_wp2_with fail
    go_ret2
    rw [show waitM d = none by simp [waitM, g]]
    exact ⟨_, 0, rfl, o1, bel_then K0 b1⟩
  · rintro e w1 ⟨rfl, b1⟩
    have HR := Lib.hid (show waitM d = some (waitTo d d.known.length) by simp [waitM, g, waitTo])
    have ht := (deskB_top g).1
    have K1 := bel_then K0 b1
    have P1 := P0.next b1
    have o1 := own_below o0 b1
    clear g o0 P0 K0 b1
    go_wp2_with fail
    go_loopw [4, 5] (fun v i wr => ∃ (k : Nat) (out : List Int) (A' : Option Addr) (c' : Nat), k ≤ h.n1 ∧ i = .int .i64 k ∧ v = .slice A' out.length c' ∧ wr.ownsRow (w.heap.size + 1) 3 1 (.slice A' out.length c') out.length (ints out) ∧ out.length ≤ k ∧ Hid (waitTo d k = out) ∧ Blk wr w.heap.size 32 [.slice h.A0 h.n0 h.c0, .slice h.A1 h.n1 h.c1, .slice h.A2 h.n2 h.c2, .slice h.A3 h.n3 h.c3, .slice h.A4 h.n4 h.c4] ∧ Below w.heap.size w wr) (fun _ i _ => h.n1 - (intOf i).toNat)
    case atStart => exact ⟨0, [], _, _, Nat.zero_le _, rfl, rfl, o1, Nat.le_refl _, Lib.hid rfl, P1, K1⟩
    case round =>
      obtain ⟨k, out, A', c', hk, rfl, rfl, hown, hlo, HO, PB, hb⟩ := hrel
      have cm := PB.cell
      by_cases hlt : k < h.n1
      · obtain ⟨bk, offk, hA1, hkx, x0⟩ := (hs.f1.next hb).int hlt
        have hN := waitTo_next d hkx
        rw [HO.out] at hN
        have hblt := World.block_lt_of_cell? wr _ x0
        have hnp : (k : Int) < (h.n1 : Int) := by omega
        have b3 := (Quiet.one wr).below wr.heap.size
        rw [hA1] at cm
        clear hA1
        cases g : doneB d.done d.known[k]
        · rw [g] at hN
          have HN := Lib.hid (hN.trans (if_neg (by decide)))
          have HD := Lib.hid (fun nq : Nat => (show Calls Try.prog 51 #[.slice h.A3 h.n3 h.c3, .int .i64 d.known[k]] (wr.drewN nq) fun e w' => e = .returned (.bool false) ∧ wr.drewN nq = w' by rw [← g]; exact l25Done_any h.A3 h.n3 h.c3 d.done d.known[k] _ ((HS3.next hb).quiet (Quiet.mk _ _)) hn3))
          clear hN b3 g
          go_wp2_with fail
          go_quiet ((go_at_call 51; exact quiet_left (HD.out _)))
          go_wp2_with (at_builtin; go_loud (refine wpList_pushNew rfl _ _ _ rfl Try.underlying22 info_int rfl (by decide) rfl (own_below hown ((Quiet.mk wr _).below _)) rfl (by simp) (by rfl) (by rfl) (by omega) (by decide) ((PB.quiet (Quiet.mk wr _)).lt) ?_); intro A9 c9 w9 o9 h9 b9 q9)
          have K4 := bel_quiet hb (Quiet.mk wr nq)
          have B4 := PB.quiet (Quiet.mk wr nq)
          have z4 := PB.lt
          go_roundw
          case rel => exact ⟨k + 1, out ++ [d.known[k]], A9, c9, by omega, by go_num, by simp, by simpa [ints] using o9, by simp; omega, HN, B4.only h9 (own_not hown (by omega)), K4.trans (b9.mono (by omega))⟩
          case measure => simp [intOf]; omega
        · rw [g] at hN
          have HN := Lib.hid (hN.trans (if_pos rfl))
          have HD := Lib.hid (fun nq : Nat => (show Calls Try.prog 51 #[.slice h.A3 h.n3 h.c3, .int .i64 d.known[k]] (wr.drewN nq) fun e w' => e = .returned (.bool true) ∧ wr.drewN nq = w' by rw [← g]; exact l25Done_any h.A3 h.n3 h.c3 d.done d.known[k] _ ((HS3.next hb).quiet (Quiet.mk _ _)) hn3))
          clear hN b3 g
          go_wp2_with fail
          go_quiet ((go_at_call 51; exact quiet_left (HD.out _)))
          go_wp2_with fail
          go_roundw
          case rel => exact ⟨k + 1, out, A', c', by omega, by go_num, rfl, own_below hown ((Quiet.mk wr nq).below _), by omega, HN, PB.quiet (Quiet.mk wr nq), bel_quiet hb (Quiet.mk wr nq)⟩
          case measure => simp [intOf]; omega
      · have HE := Lib.hid (show waitM d = some out by rw [HR.out, ← HO.out, show d.known.length = k by omega])
        go_wp2_with fail
        go_ret2
        rw [HE.out]
        exact ⟨A', c', rfl, own_low hown (by omega), hb⟩

end Go.Proofs.Ytkeffhnkhmalpaa
