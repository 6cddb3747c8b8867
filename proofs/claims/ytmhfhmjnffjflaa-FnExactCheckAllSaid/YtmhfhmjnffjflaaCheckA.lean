/- CheckAll, as the program has it. -/
import Derived.Deep.LoopGhost
import Derived.Test.YtmhfhmjnffjflaaCheckS
import Derived.Test.YtmhfhmjnffjflaaCheckF
import Derived.Test.YtmhfhmjnffjflaaNewDIW
namespace Go.Proofs.Ytmhfhmjnffjflaa
open Go.RowKit

/-- A desk in memory of the call's own, or none; and a number. -/
def GivesDeskIO (w : World) (R : Option DeskV) (c : Int) (e : Ending) (w' : World) : Prop :=
  ∃ H : DeskH, e = .returned (.tuple #[.agg #[.slice H.A0 H.n0 H.c0, .slice H.A1 H.n1 H.c1, .slice H.A2 H.n2 H.c2, .slice H.A3 H.n3 H.c3, .slice H.A4 H.n4 H.c4], .int .i64 c, .bool R.isSome]) ∧ MineDesk w' (In w.heap.size w'.heap.size) H (R.getD deskZ) ∧ DeskFit 1048576 H (R.getD deskZ) ∧ H.n3 ≤ H.c3 ∧ Below w.heap.size w w'
theorem givesDIO_none {w w' : World} (h : Below w.heap.size w w') : GivesDeskIO w none 0 (.returned (.tuple #[.agg #[.slice none 0 0, .slice none 0 0, .slice none 0 0, .slice none 0 0, .slice none 0 0], .int .i64 0, .bool false])) w' :=
  ⟨⟨none, 0, 0, none, 0, 0, none, 0, 0, none, 0, 0, none, 0, 0⟩, rfl, deskZ_mine _ _, deskZ_fit, Nat.le_refl _, h⟩
theorem checkAll_none {d : DeskV} (g : deskB d = false) : checkAllM d = none ∧ checkAllC d = 0 := by
  unfold checkAllM checkAllC
  rw [g]
  exact ⟨rfl, rfl⟩
theorem checkAll_some {d : DeskV} {c : Nat} (g : deskB d = true) (h : (checkN d.queue.length d).done.length = d.done.length + c) : checkAllM d = some (checkN d.queue.length d) ∧ checkAllC d = (c : Int) := by
  unfold checkAllM checkAllC
  rw [g, h]
  exact ⟨rfl, by rw [if_pos rfl]; omega⟩
theorem MineW.caps {w : World} {S : Nat → Prop} {h : DeskH} {d : DeskV} (m : MineW w S h d) : h.n3 ≤ h.c3 := by
  obtain ⟨col, m⟩ := m
  exact own_cap m.f3.own

set_option maxRecDepth 100000 in
set_option maxHeartbeats 4000000 in
theorem CheckAll_any (h : DeskH) (d : DeskV) (w : World) (hs : SeesDesk w 0 h d) (hf : DeskFit 1048576 h d) (hc : h.n3 ≤ h.c3) :
    Calls Try.prog 7 #[.agg #[.slice h.A0 h.n0 h.c0, .slice h.A1 h.n1 h.c1, .slice h.A2 h.n2 h.c2, .slice h.A3 h.n3 h.c3, .slice h.A4 h.n4 h.c4]] w (GivesDeskIO w (checkAllM d) (checkAllC d)) := by
  have K0 : Below w.heap.size w ((w.alloc (.cells #[.slice h.A0 h.n0 h.c0, .slice h.A1 h.n1 h.c1, .slice h.A2 h.n2 h.c2, .slice h.A3 h.n3 h.c3, .slice h.A4 h.n4 h.c4] 31)).alloc (.cells #[.slice none 0 0, .slice none 0 0, .slice none 0 0, .slice none 0 0, .slice none 0 0] 31)) := ((Below.refl w.heap.size w).alloc (Nat.le_refl _) _).alloc (by simp) _
  have P : Blk ((w.alloc (.cells #[.slice h.A0 h.n0 h.c0, .slice h.A1 h.n1 h.c1, .slice h.A2 h.n2 h.c2, .slice h.A3 h.n3 h.c3, .slice h.A4 h.n4 h.c4] 31)).alloc (.cells #[.slice none 0 0, .slice none 0 0, .slice none 0 0, .slice none 0 0, .slice none 0 0] 31)) w.heap.size 31 [.slice h.A0 h.n0 h.c0, .slice h.A1 h.n1 h.c1, .slice h.A2 h.n2 h.c2, .slice h.A3 h.n3 h.c3, .slice h.A4 h.n4 h.c4] := (Blk.at_ rfl).alloc _
  have R : Blk ((w.alloc (.cells #[.slice h.A0 h.n0 h.c0, .slice h.A1 h.n1 h.c1, .slice h.A2 h.n2 h.c2, .slice h.A3 h.n3 h.c3, .slice h.A4 h.n4 h.c4] 31)).alloc (.cells #[.slice none 0 0, .slice none 0 0, .slice none 0 0, .slice none 0 0, .slice none 0 0] 31)) (w.heap.size + 1) 31 [.slice none 0 0, .slice none 0 0, .slice none 0 0, .slice none 0 0, .slice none 0 0] := Blk.at_ (by simp)
  have z0 : w.heap.size + 2 ≤ (((w.alloc (.cells #[.slice h.A0 h.n0 h.c0, .slice h.A1 h.n1 h.c1, .slice h.A2 h.n2 h.c2, .slice h.A3 h.n3 h.c3, .slice h.A4 h.n4 h.c4] 31)).alloc (.cells #[.slice none 0 0, .slice none 0 0, .slice none 0 0, .slice none 0 0, .slice none 0 0] 31))).heap.size := by simp
  go_enter Try.func7, Try.ntmps7
  go_wp2_with fail
  generalize ((w.alloc (.cells #[.slice h.A0 h.n0 h.c0, .slice h.A1 h.n1 h.c1, .slice h.A2 h.n2 h.c2, .slice h.A3 h.n3 h.c3, .slice h.A4 h.n4 h.c4] 31)).alloc (.cells #[.slice none 0 0, .slice none 0 0, .slice none 0 0, .slice none 0 0, .slice none 0 0] 31)) = w0 at *
  refine (IsDesk_any h d _ (hs.below K0 (Nat.le_refl _)) hf hc).mono ?_
  cases g : deskB d
  · rintro x w1 ⟨rfl, b1⟩
    have K1 := bel_then K0 b1
    have R1 := R.next b1
    have rc := R1.cell
    have rf := R1.frozen
    go_wp2_with fail
    refine bodyPost_ret (v := .tuple #[.agg #[.slice none 0 0, .slice none 0 0, .slice none 0 0, .slice none 0 0, .slice none 0 0], .int .i64 0, .bool false]) (by simp [results, Try.results7, go_sem, rc]) rfl ?_
    rw [(checkAll_none g).1, (checkAll_none g).2]
    have E := ((((((Only.refl (fun b => b = w.heap.size + 1) w1).setCell (p := ⟨w.heap.size + 1, 0, none⟩) rfl (.slice none 0 0)).setCell (p := ⟨w.heap.size + 1, 1, none⟩) rfl (.slice none 0 0)).setCell (p := ⟨w.heap.size + 1, 2, none⟩) rfl (.slice none 0 0)).setCell (p := ⟨w.heap.size + 1, 3, none⟩) rfl (.slice none 0 0)).setCell (p := ⟨w.heap.size + 1, 4, none⟩) rfl (.slice none 0 0))
    exact givesDIO_none (K1.trans (E.below (fun k hk => by omega) K1.size))
  · rintro x w1 ⟨rfl, b1⟩
    have SM := deskB_small g
    have K1 := bel_then K0 b1
    have R1 := R.next b1
    have P1 := P.next b1
    have z1 := b1.size
    have pc := P1.cell
    clear P R K0 b1
    go_wp2_with fail
    refine (newDeskW_any h d _ (hs.below K1 (Nat.le_refl _)) hf).mono ?_
    rintro x w2 ⟨H, rfl, M, F, C3, C2, b2⟩
    have K2 := bel_then K1 b2
    have R2 := R1.next b2
    have z2 := b2.size
    have hn2 := Lib.hid (SM.lens M.desk.sees).2.2.1
    have U : Below w2.heap.size w2 (w2.alloc (.cells #[.slice H.A0 H.n0 H.c0, .slice H.A1 H.n1 H.c1, .slice H.A2 H.n2 H.c2, .slice H.A3 H.n3 H.c3, .slice H.A4 H.n4 H.c4] 31)) := (Below.refl _ _).alloc (Nat.le_refl _) _
    have B3 : Blk (w2.alloc (.cells #[.slice H.A0 H.n0 H.c0, .slice H.A1 H.n1 H.c1, .slice H.A2 H.n2 H.c2, .slice H.A3 H.n3 H.c3, .slice H.A4 H.n4 H.c4] 31)) w2.heap.size 31 [.slice H.A0 H.n0 H.c0, .slice H.A1 H.n1 H.c1, .slice H.A2 H.n2 H.c2, .slice H.A3 H.n3 H.c3, .slice H.A4 H.n4 H.c4] := Blk.at_ rfl
    have K3 := bel_then K2 U
    have R3 := R2.next U
    have M3 := (M.next U).wide (T := fun b => b ≠ w2.heap.size ∧ w.heap.size + 2 ≤ b ∧ b < (w2.alloc (.cells #[.slice H.A0 H.n0 H.c0, .slice H.A1 H.n1 H.c1, .slice H.A2 H.n2 H.c2, .slice H.A3 H.n3 H.c3, .slice H.A4 H.n4 H.c4] 31)).heap.size) (fun b hb => ⟨by have := hb.2; omega, by have := hb.1; omega, Nat.lt_of_lt_of_le hb.2 U.size⟩)
    clear pc P1 K1 R1 M K2 R2 U b2
    have hg5 : w.heap.size + 2 ≤ w2.heap.size := by omega
    have G := Lib.hid g
    clear g
    have HT := SM.total
    go_wp2_with fail
    generalize w2.alloc (.cells #[.slice H.A0 H.n0 H.c0, .slice H.A1 H.n1 H.c1, .slice H.A2 H.n2 H.c2, .slice H.A3 H.n3 H.c3, .slice H.A4 H.n4 H.c4] 31) = w3 at *
    generalize w2.heap.size = g5 at *
    go_loopg [6] d.queue.length (fun gk v wr => ∃ (h' : DeskH) (k c : Nat), v = .int .i64 (c : Int) ∧ c + gk ≤ 1000 ∧ Hid (gk + k = d.queue.length ∧ (checkN k d).done.length = d.done.length + c) ∧ h'.n2 = gk ∧ h'.n2 ≤ h'.c2 ∧ Blk wr g5 31 [.slice h'.A0 h'.n0 h'.c0, .slice h'.A1 h'.n1 h'.c1, .slice h'.A2 h'.n2 h'.c2, .slice h'.A3 h'.n3 h'.c3, .slice h'.A4 h'.n4 h'.c4] ∧ MineW wr (fun b => b ≠ g5 ∧ w.heap.size + 2 ≤ b ∧ b < wr.heap.size) h' (checkN k d) ∧ Blk wr (w.heap.size + 1) 31 [.slice none 0 0, .slice none 0 0, .slice none 0 0, .slice none 0 0, .slice none 0 0] ∧ Below w.heap.size w wr)
    case atStart => exact ⟨H, 0, 0, rfl, by omega, Lib.hid ⟨by omega, rfl⟩, hn2.out, C2, B3, M3, R3, K3⟩
    case round =>
      obtain ⟨h', k, c, rfl, hcg, HK, hn, hcap, B, M, R, K⟩ := hrel
      clear B3 M3 R3 K3
      have bc := B.cell
      have rc := R.cell
      have rf := R.frozen
      have hgl := B.lt
      rcases gk with _ | gk
      · have hkN : k = d.queue.length := by have := HK.out.1; omega
        subst hkN
        have hall := checkAll_some G.out HK.out.2
        have HA := Lib.hid hall
        have hpos : ¬ (0 : Int) < (h'.n2 : Int) := by omega
        have HN := Lib.hid hn
        clear hall hcap hn
        go_wp2_with fail
        refine bodyPost_ret (v := .tuple #[.agg #[.slice h'.A0 h'.n0 h'.c0, .slice h'.A1 h'.n1 h'.c1, .slice h'.A2 h'.n2 h'.c2, .slice h'.A3 h'.n3 h'.c3, .slice h'.A4 h'.n4 h'.c4], .int .i64 (c : Int), .bool true]) (by simp [results, Try.results7, go_sem, rc]) rfl ?_
        rw [HA.out.1, HA.out.2]
        have E := ((((((Only.refl (fun b => b = w.heap.size + 1) wr).setCell (p := ⟨w.heap.size + 1, 0, none⟩) rfl (.slice h'.A0 h'.n0 h'.c0)).setCell (p := ⟨w.heap.size + 1, 1, none⟩) rfl (.slice h'.A1 h'.n1 h'.c1)).setCell (p := ⟨w.heap.size + 1, 2, none⟩) rfl (.slice h'.A2 h'.n2 h'.c2)).setCell (p := ⟨w.heap.size + 1, 3, none⟩) rfl (.slice h'.A3 h'.n3 h'.c3)).setCell (p := ⟨w.heap.size + 1, 4, none⟩) rfl (.slice h'.A4 h'.n4 h'.c4))
        have zF := E.size
        have M4 := M.only E (fun b h1 h2 => by have := h1.2.1; omega)
        exact ⟨h', rfl, (M4.wide (fun b hb => by have := hb.2.1; have := hb.2.2; exact ⟨by omega, by omega⟩)).desk, (SM.checks _).fit M.desk.sees (by decide) (by decide), M.caps, K.trans (E.below (fun k hk => by omega) K.size)⟩
      · have hpos : (0 : Int) < (h'.n2 : Int) := by omega
        have HN := Lib.hid hn
        clear hn
        go_wp2_with fail
        refine (checkFirst_any g5 h' (checkN k d) _ gk _ B M (fun b hb => hb.2.2) (fun hb => hb.1 rfl) ((SM.checks k).fit M.desk.sees (by decide) (by decide)) HN.out hcap (fun c hc => ((SM.checks k).qc c hc).2)).mono ?_
        rintro e w4 ⟨h2, x, q, hq, rfl, B', M', ⟨e2, cap', -⟩, ho⟩
        have hz := ho.size
        have K' := K.trans (ho.below (fun b hb => by rcases hb with hb | hb; (· have := hb.2.1; omega); (· omega)) K.size)
        have R' := R.only ho (fun hb => by rcases hb with hb | hb; (· have := hb.2.1; omega); (· omega))
        have M' := M'.wide (T := fun b => b ≠ g5 ∧ w.heap.size + 2 ≤ b ∧ b < w4.heap.size) (fun b hb => by
          rcases hb with hb | hb
          · have := hb.2.2; exact ⟨hb.1, hb.2.1, by omega⟩
          · have := hb.1; exact ⟨by omega, by omega, hb.2⟩)
        have hd := putsB_done hq
        have HD := Lib.hid (show (checkN (k + 1) d).done.length = d.done.length + c + (if putsB (checkN k d) x then 1 else 0) by rw [checkN, hd, HK.out.2])
        clear hd hq bc rc rf B M R K ho
        cases hp : putsB (checkN k d) x
        · have HP := Lib.hid hp
          clear hp
          go_wp2_with fail
          go_roundg gk
          case measure => omega
          case rel => exact ⟨h2, k + 1, c, rfl, by omega, Lib.hid ⟨by have := HK.out.1; omega, by rw [HD.out, HP.out]; rfl⟩, e2, cap', B', M', R', K'⟩
        · have HP := Lib.hid hp
          clear hp
          have hc1 : (c : Int) + 1 ≤ 1000 := by omega
          go_wp2_with fail
          go_roundg gk
          case measure => omega
          case rel => exact ⟨h2, k + 1, c + 1, by go_num, by omega, Lib.hid ⟨by have := HK.out.1; omega, by rw [HD.out, HP.out]; rfl⟩, e2, cap', B', M', R', K'⟩

end Go.Proofs.Ytmhfhmjnffjflaa
