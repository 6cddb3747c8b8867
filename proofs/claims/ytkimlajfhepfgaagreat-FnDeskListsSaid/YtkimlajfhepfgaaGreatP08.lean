/- Joined texts of this proof: StepI. -/
import Derived.Deep.CutBlock
import Derived.Deep.CutRange
import Derived.Test.YtkimlajfhepfgaaGreatP07
import Derived.Test.YtkimlajfhepfgaaGreatP04
namespace Go.Proofs.YtkimlajfhepfgaaGreat
open Go.RowKit

set_option maxRecDepth 100000 in
set_option maxHeartbeats 8000000 in
theorem stepDesk_any (h : DeskH) (d : DeskV) (A : Option Addr) (n c : Nat) (s : DeskStep) (w : World) (hs : SeesDesk w 0 h d) (hd : deskB d = true) (hx : Sees w 0 2 A n (s.card.punches.flatMap Punch.enc)) (hn : n ≤ 1048576) :
  Calls Tryz.prog 34 #[.agg #[.slice h.A0 h.n0 h.c0, .slice h.A1 h.n1 h.c1, .slice h.A2 h.n2 h.c2, .slice h.A3 h.n3 h.c3, .slice h.A4 h.n4 h.c4], .agg #[.int .i64 s.kind, .int .i64 s.number, .int .i64 s.cnumber, .int .i64 s.cstart, .int .i64 s.cfinish, .slice A n c]] w (GivesStep w (stepOut d s) (stepB d s)) := by
 have K0 : Below w.heap.size w (((w.alloc (.cells #[.slice h.A0 h.n0 h.c0, .slice h.A1 h.n1 h.c1, .slice h.A2 h.n2 h.c2, .slice h.A3 h.n3 h.c3, .slice h.A4 h.n4 h.c4] 28)).alloc (.cells #[.int .i64 s.kind, .int .i64 s.number, .int .i64 s.cnumber, .int .i64 s.cstart, .int .i64 s.cfinish, .slice A n c] 33)).alloc (.cells #[.slice none 0 0, .slice none 0 0, .slice none 0 0, .slice none 0 0, .slice none 0 0] 28)) := (((Below.refl w.heap.size w).alloc (Nat.le_refl _) _).alloc (by simp) _).alloc (by simp; omega) _
 have Q0 : Blk (((w.alloc (.cells #[.slice h.A0 h.n0 h.c0, .slice h.A1 h.n1 h.c1, .slice h.A2 h.n2 h.c2, .slice h.A3 h.n3 h.c3, .slice h.A4 h.n4 h.c4] 28)).alloc (.cells #[.int .i64 s.kind, .int .i64 s.number, .int .i64 s.cnumber, .int .i64 s.cstart, .int .i64 s.cfinish, .slice A n c] 33)).alloc (.cells #[.slice none 0 0, .slice none 0 0, .slice none 0 0, .slice none 0 0, .slice none 0 0] 28)) (w.heap.size + 1) 33 [.int .i64 s.kind, .int .i64 s.number, .int .i64 s.cnumber, .int .i64 s.cstart, .int .i64 s.cfinish, .slice A n c] := (Blk.at_ (by simp)).alloc _
 have R0 : Blk (((w.alloc (.cells #[.slice h.A0 h.n0 h.c0, .slice h.A1 h.n1 h.c1, .slice h.A2 h.n2 h.c2, .slice h.A3 h.n3 h.c3, .slice h.A4 h.n4 h.c4] 28)).alloc (.cells #[.int .i64 s.kind, .int .i64 s.number, .int .i64 s.cnumber, .int .i64 s.cstart, .int .i64 s.cfinish, .slice A n c] 33)).alloc (.cells #[.slice none 0 0, .slice none 0 0, .slice none 0 0, .slice none 0 0, .slice none 0 0] 28)) (w.heap.size + 2) 28 [.slice none 0 0, .slice none 0 0, .slice none 0 0, .slice none 0 0, .slice none 0 0] := Blk.at_ (by simp)
 have z0 : w.heap.size + 3 ≤ ((((w.alloc (.cells #[.slice h.A0 h.n0 h.c0, .slice h.A1 h.n1 h.c1, .slice h.A2 h.n2 h.c2, .slice h.A3 h.n3 h.c3, .slice h.A4 h.n4 h.c4] 28)).alloc (.cells #[.int .i64 s.kind, .int .i64 s.number, .int .i64 s.cnumber, .int .i64 s.cstart, .int .i64 s.cfinish, .slice A n c] 33)).alloc (.cells #[.slice none 0 0, .slice none 0 0, .slice none 0 0, .slice none 0 0, .slice none 0 0] 28))).heap.size := by simp
 have SM := deskB_small hd
 have hcnt : s.card.cnt ≤ 1048576 := by
  have := hx.count (by decide) (fun _ => rfl)
  unfold Card.cnt; omega
 go_enter Tryz.func34, Tryz.ntmps34
 go_wp2_with fail
 generalize (((w.alloc (.cells #[.slice h.A0 h.n0 h.c0, .slice h.A1 h.n1 h.c1, .slice h.A2 h.n2 h.c2, .slice h.A3 h.n3 h.c3, .slice h.A4 h.n4 h.c4] 28)).alloc (.cells #[.int .i64 s.kind, .int .i64 s.number, .int .i64 s.cnumber, .int .i64 s.cstart, .int .i64 s.cfinish, .slice A n c] 33)).alloc (.cells #[.slice none 0 0, .slice none 0 0, .slice none 0 0, .slice none 0 0, .slice none 0 0] 28)) = w0 at *
 refine (newDeskN_any h d _ (hs.below K0 (Nat.le_refl _)) (SM.fit hs (by decide) (by decide))).mono ?_
 rintro x w2 ⟨H, rfl, M, F, C3, C2, b2⟩
 have K2 := bel_then K0 b2
 have R2 := R0.next b2
 have Q2 := Q0.next b2
 have z2 := b2.size
 have HLEN := Lib.hid (SM.lens M.toW.desk.sees)
 have U : Below w2.heap.size w2 (w2.alloc (.cells #[.slice H.A0 H.n0 H.c0, .slice H.A1 H.n1 H.c1, .slice H.A2 H.n2 H.c2, .slice H.A3 H.n3 H.c3, .slice H.A4 H.n4 H.c4] 28)) := (Below.refl _ _).alloc (Nat.le_refl _) _
 have B : Blk (w2.alloc (.cells #[.slice H.A0 H.n0 H.c0, .slice H.A1 H.n1 H.c1, .slice H.A2 H.n2 H.c2, .slice H.A3 H.n3 H.c3, .slice H.A4 H.n4 H.c4] 28)) w2.heap.size 28 [.slice H.A0 H.n0 H.c0, .slice H.A1 H.n1 H.c1, .slice H.A2 H.n2 H.c2, .slice H.A3 H.n3 H.c3, .slice H.A4 H.n4 H.c4] := Blk.at_ rfl
 have Kq := bel_then K2 U
 have R := R2.next U
 have Q := Q2.next U
 have X := hx.next Kq
 obtain ⟨col, mc, rsq, hrq, MQ⟩ := M
 obtain ⟨rs, hrs, MR⟩ := mc.f4
 replace mc := mc.next U
 replace MQ := MQ.next U
 replace MR := MR.next U
 have hA2 := MQ.outer.top
 have hS : ∀ b, In w0.heap.size w2.heap.size b → b < (w2.alloc (.cells #[.slice H.A0 H.n0 H.c0, .slice H.A1 H.n1 H.c1, .slice H.A2 H.n2 H.c2, .slice H.A3 H.n3 H.c3, .slice H.A4 H.n4 H.c4] 28)).heap.size := fun b hb => Nat.lt_of_lt_of_le hb.2 U.size
 have hS2 : ∀ b, In w0.heap.size w2.heap.size b → b ≠ w2.heap.size ∧ w.heap.size + 3 ≤ b := fun b hb => ⟨by have := hb.2; omega, by have := hb.1; omega⟩
 have hg : ¬ In w0.heap.size w2.heap.size w2.heap.size := fun hb => (hS2 _ hb).1 rfl
 have hzg : w.heap.size + 3 ≤ w2.heap.size := by omega
 have hzq := Q2.lt
 have pq2 := Q2.cell
 generalize In w0.heap.size w2.heap.size = S at *
 have hn1 : H.n1 ≤ 1000 := by have := HLEN.out.2.1; have := SM.known; omega
 have hn2 : H.n2 ≤ 1048576 := F.n2
 have hn4 : H.n4 ≤ 1000 := by have := HLEN.out.2.2.2.2; have := SM.total; omega
 clear hs hx K0 Q0 R0 b2 K2 R2 U F C3
 go_upto_block 0 with fail
 clear pq2 Q2
 generalize w2.alloc (.cells #[.slice H.A0 H.n0 H.c0, .slice H.A1 H.n1 H.c1, .slice H.A2 H.n2 H.c2, .slice H.A3 H.n3 H.c3, .slice H.A4 H.n4 H.c4] 28) = w3 at *
 generalize w2.heap.size = g at *
 go_cut [7] from 12 to 90 (fun v wr => v = .bool (stepOk d s) ∧ StepAt g w (stepOut d s) wr)
 case first =>
  have Kt := Below.refl w3.heap.size w3
  have pb := B.cell
  have pf := B.frozen
  have pq := Q.cell
  by_cases k1 : s.kind = 1
  ·have HOUT := Lib.hid (show stepOut d s = { d with queue := d.queue ++ [s.card] } by unfold stepOut; rw [if_pos k1])
   have HOK0 := Lib.hid (show stepOk d s = (decide (s.number = 0) && finB s.card) by unfold stepOk; rw [if_pos k1])
   have f1 : (s.kind == 1) = true := beq_iff_eq.2 k1
   have K1H := Lib.hid k1
   clear k1
   by_cases n0 : s.number = 0
   ·have f2 : (s.number == 0) = true := beq_iff_eq.2 n0
    have HOK := Lib.hid (show stepOk d s = finB s.card by rw [HOK0.out]; simp [n0])
    clear n0 HOK0
    have SN : SeesN cardSh (w3.alloc (.cells #[.int .i64 s.cnumber, .int .i64 s.cstart, .int .i64 s.cfinish, .slice A n c] 31)) 0 (some ⟨w3.heap.size, 0, none⟩) 1 [s.card] := ⟨[⟨s.card, A, n, c⟩], rfl, (show Blk (w3.alloc (.cells #[.int .i64 s.cnumber, .int .i64 s.cstart, .int .i64 s.cfinish, .slice A n c] 31)) w3.heap.size 31 [.int .i64 s.cnumber, .int .i64 s.cstart, .int .i64 s.cfinish, .slice A n c] from Blk.at_ rfl).sees (s := 4) (Nat.zero_le _) rfl, fun r hr => by
     obtain rfl := List.mem_singleton.1 hr
     exact X.next ((Below.refl _ _).alloc (Nat.le_refl _) _)⟩
    go_upto_region 5 with (go_at_call 42
                           refine (areFinished_any _ 1 1 [s.card] _ SN (by omega) (fun x hx => by
                            obtain rfl := List.mem_singleton.1 hx
                            exact hcnt)).mono ?_
                           rintro e w4 ⟨rfl, b0⟩
                           have b := bel_then ((Below.refl w3.heap.size w3).alloc (Nat.le_refl _) (.cells #[.int .i64 s.cnumber, .int .i64 s.cstart, .int .i64 s.cfinish, .slice A n c] 31)) b0
                           clear b0 SN
                           clear pb pf pq
                           replace B := B.next b
                           replace Q := Q.next b
                           replace R := R.next b
                           replace X := X.next b
                           replace mc := mc.next b
                           replace MQ := MQ.next b
                           replace MR := MR.next b
                           replace Kq := bel_then Kq b
                           replace Kt := bel_then Kt b
                           replace hS := fun x (hx : S x) => Nat.lt_of_lt_of_le (hS x hx) b.size
                           have pb := B.cell
                           have pf := B.frozen
                           have pq := Q.cell
                           clear b)
    have pbw := B.cell
    have pfw := B.frozen
    have pqw := Q.cell
    have b := (Quiet.one w4).below w4.heap.size
    clear pb pf pq
    replace B := B.next b
    replace Q := Q.next b
    replace R := R.next b
    replace X := X.next b
    replace mc := mc.next b
    replace MQ := MQ.next b
    replace MR := MR.next b
    replace Kq := bel_then Kq b
    replace Kt := bel_then Kt b
    replace hS := fun x (hx : S x) => Nat.lt_of_lt_of_le (hS x hx) b.size
    have pb := B.cell
    have pf := B.frozen
    have pq := Q.cell
    clear b
    go_wp2_with fail
    refine wp_region_held_drew (S := fun w' => w'.cell? ⟨w.heap.size + 1, 2, none⟩ = some (.int .i64 s.cnumber) ∧ w'.cell? ⟨w.heap.size + 1, 3, none⟩ = some (.int .i64 s.cstart) ∧ w'.cell? ⟨w.heap.size + 1, 4, none⟩ = some (.int .i64 s.cfinish) ∧ w'.cell? ⟨w.heap.size + 1, 5, none⟩ = some (.slice A n c)) (by kernel_rfl) (by (try dsimp only); first | exact ⟨pq 2, pq 3, pq 4, pq 5⟩ | exact ⟨qq 2, qq 3, qq 4, qq 5⟩ | exact ⟨qq2 2, qq2 3, qq2 4, qq2 5⟩ | exact ⟨pq7 2, pq7 3, pq7 4, pq7 5⟩) (fun hH => ?_)
    refine wT (i := 0) (v := ?_) rfl (by kernel_rfl) (by kernel_rfl) (by kernel_rfl) (fun _ _ _ h => h) (Or.inl ⟨by rfl, ?_⟩) (by assumption) ?_
    rotate_left 1
    ·(intro w hSw; (try dsimp only at hSw); go_simp; try with_reducible rfl)
    simp only [Act.put, pX]
    refine wT (i := 2) (v := ?_) rfl (by kernel_rfl) (by kernel_rfl) (by kernel_rfl) (fun _ _ _ h => h) (Or.inl ⟨by rfl, ?_⟩) (by assumption) ?_
    rotate_left 1
    ·(intro w hSw; (try dsimp only at hSw); go_simp; try with_reducible rfl)
    simp only [Act.put, pX]
    refine wT (i := 3) (v := ?_) rfl (by kernel_rfl) (by kernel_rfl) (by kernel_rfl) (fun _ _ _ h => h) (Or.inl ⟨by rfl, ?_⟩) (by assumption) ?_
    rotate_left 1
    ·(intro w hSw; (try dsimp only at hSw); go_simp; try with_reducible rfl)
    simp only [Act.put, pX]
    refine wR (rs := [1, 4]) (by kernel_rfl) (by simp) ?_
    refine aC rfl (fun K hK => ?_) ?_
    ·go_simp
     refine hK.out _ _ (by (try dsimp only); first | exact ⟨pq 2, pq 3, pq 4, pq 5⟩ | exact ⟨qq 2, qq 3, qq 4, qq 5⟩ | exact ⟨qq2 2, qq2 3, qq2 4, qq2 5⟩ | exact ⟨pq7 2, pq7 3, pq7 4, pq7 5⟩) (fun hH => ?_)
     clear hK K
     try simp only [Act.put, pX]
     refine wR (rs := [4]) (by kernel_rfl) (by simp) ?_
     refine aC rfl (fun K hK => ?_) aN
     go_simp
     refine (newCard_any A n c 0 s.card _ X (by omega)).mono ?_
     rintro e w5 ⟨An, cn, rfl, on, b⟩
     have WX : Below w5.heap.size w5 (w5.alloc (.cells #[.int .i64 s.card.number, .int .i64 s.card.start, .int .i64 s.card.finish, .slice An n cn] 31)) := (Below.refl _ _).alloc (Nat.le_refl _) _
     have BA : Blk (w5.alloc (.cells #[.int .i64 s.card.number, .int .i64 s.card.start, .int .i64 s.card.finish, .slice An n cn] 31)) w5.heap.size 31 [.int .i64 s.card.number, .int .i64 s.card.start, .int .i64 s.card.finish, .slice An n cn] := Blk.at_ rfl
     have HLOW := Lib.hid (fun b (hb : OwnB An b) => own_top on hb)
     have B1 := B.next b
     have Q1 := Q.next b
     have Q2 := Q1.next WX
     have R2 := (R.next b).next WX
     have B2 := B1.next WX
     have MQ2 := (MQ.next b).next WX
     have on2 := own_below on WX
     have Kd := bel_then b WX
     have K2 := bel_then (bel_then Kq b) WX
     have zw5 : w5.heap.size + 1 ≤ (w5.alloc (.cells #[.int .i64 s.card.number, .int .i64 s.card.start, .int .i64 s.card.finish, .slice An n cn] 31)).heap.size := by simp
     clear on b
     have qb := B1.cell
     have qb2 := B2.cell
     have qf := B1.frozen
     have qq := Q1.cell
     have qq2 := Q2.cell
     go_wp2_with fail
     refine hK.out _ _ (by (try dsimp only); first | exact ⟨pq 2, pq 3, pq 4, pq 5⟩ | exact ⟨qq 2, qq 3, qq 4, qq 5⟩ | exact ⟨qq2 2, qq2 3, qq2 4, qq2 5⟩ | exact ⟨pq7 2, pq7 3, pq7 4, pq7 5⟩) (fun hH => ?_)
     clear hK K
     refine wR (rs := [5]) (by kernel_rfl) (by simp) ?_
     refine aC rfl (fun K hK => ?_) aN
     go_simp
     refine hK.out _ _ (by (try dsimp only); first | exact ⟨pq 2, pq 3, pq 4, pq 5⟩ | exact ⟨qq 2, qq 3, qq 4, qq 5⟩ | exact ⟨qq2 2, qq2 3, qq2 4, qq2 5⟩ | exact ⟨pq7 2, pq7 3, pq7 4, pq7 5⟩) (fun hH => ?_)
     clear hK K
     try simp only [Act.put, pX]
     refine wR (rs := [6]) (by kernel_rfl) (by simp) ?_
     refine aC rfl (fun K hK => ?_) aN
     refine step_cat rfl _ _ _ (by rfl) Tryz.underlying25 info_impl_Card rfl (by decide) (by rfl) MQ2.outer.own (by rfl) (m := 1) (BA.sees (s := 4) (Nat.zero_le _) rfl) (by rfl) (show H.n2 ≤ 1000000000 by omega) (by omega) (by decide) (Nat.zero_le _) ?_
     intro A7 c7 w7 o7 h7 b7 q7
     have B7 := B2.only h7 (fun h => hg (hA2 g h).1)
     have Q7 := Q2.only h7 (fun h => by have := (hS2 _ (hA2 _ h).1).2; omega)
     have R7 := R2.only h7 (fun h => by have := (hS2 _ (hA2 _ h).1).2; omega)
     have K7 := K2.trans (h7.below (fun b hb => by have := (hS2 _ (hA2 _ hb).1).2; omega) K2.size)
     have f7 := B7.frozen
     have p7 := B7.cell
     have pq7 := Q7.cell
     have hst : Only (fun b => b = g) w7 (w7.setCell ⟨g, 2, none⟩ (.slice A7 (H.n2 + 1) c7)) := (Only.refl (fun b => b = g) w7).setCell (p := ⟨g, 2, none⟩) rfl _
     have B8 := B7.set_ 2 (.slice A7 (H.n2 + 1) c7)
     have pq8 := (Q7.only hst (fun h => by omega)).cell
     refine hK.out _ _ (by (try dsimp only); first | exact ⟨pq 2, pq 3, pq 4, pq 5⟩ | exact ⟨qq 2, qq 3, qq 4, qq 5⟩ | exact ⟨qq2 2, qq2 3, qq2 4, qq2 5⟩ | exact ⟨pq7 2, pq7 3, pq7 4, pq7 5⟩) (fun hH => ?_)
     clear hK K
     try simp only [Act.put, pX]
     refine wT (i := 7) (v := ?_) rfl (by kernel_rfl) (by kernel_rfl) (by kernel_rfl) (fun _ _ _ h => h) (Or.inl ⟨by rfl, ?_⟩) (by assumption) ?_
     rotate_left 1
     ·(intro w hSw; (try dsimp only at hSw); go_simp; try with_reducible rfl)
     simp only [Act.put, pX]
     refine wR (rs := [8]) (by kernel_rfl) (by simp) ?_
     refine aC rfl (fun K hK => ?_) aN
     go_simp
     refine hK.out _ _ (by (try dsimp only); exact ⟨pq8 2, pq8 3, pq8 4, pq8 5⟩) (fun hH => ?_)
     clear hK K
     try simp only [Act.put, pX]
     refine wD (by kernel_rfl) ?_ _
     have hz7 := hst.size
     have hz6 := h7.size
     have hz5 := Kd.size
     have hgl7 := B7.lt
     have hapq : ∀ b, OwnB An b → OwnB A7 b → False := fun b h1 h2 => by
      have h3 := HLOW.out b h1
      rcases q7 b h2 with h4 | h4
      ·have := hS b (hA2 b h4).1; omega
      ·omega
     have T := MineCW.arrive (r := ⟨s.card, An, n, cn⟩) (T1 := OwnB An) (T7 := OwnB A7) (n7 := H.n2 + 1) mc hS hrq MQ.inners MQ.apart hA2 ((Only.of_below Kd).trans h7) (fun b hb => .inl hb) ⟨own_base (own_only on2 h7 (fun b h1 h2 => by have := hS b (hA2 b h2).1; have := (HLOW.out b h1).1; omega)) (Nat.zero_le _), fun b hb => hb⟩ (fun b hb => by have := HLOW.out b hb; exact ⟨by omega, by omega⟩) ⟨by rw [flat_snoc]; exact o7, fun b hb => hb⟩ (fun b hb => (q7 b hb).imp id fun h => ⟨by omega, (own_top o7 hb).2⟩) hapq
     have T2 := (T.toW.only hst (fun b h1 (h2 : b = g) => by
      rcases h1 with h1 | h1
      ·exact hg (h2 ▸ h1)
      ·have := B.lt; omega)).wide (T := fun b => b ≠ g ∧ w.heap.size + 3 ≤ b ∧ b < (w7.setCell ⟨g, 2, none⟩ (.slice A7 (H.n2 + 1) c7)).heap.size) (fun b h1 => by
      rcases h1 with h1 | h1
      ·exact ⟨(hS2 b h1).1, (hS2 b h1).2, by have := hS b h1; omega⟩
      ·have := B.lt; exact ⟨by omega, by omega, by omega⟩)
     have K8 := K7.trans (hst.below (fun b hb => by omega) K7.size)
     have R8 := R7.only hst (fun h => by omega)
     go_wp2_with fail
     go_meet
     exact ⟨by rw [HOK.out], by rw [HOUT.out]; exact ⟨⟨H.A0, H.n0, H.c0, H.A1, H.n1, H.c1, A7, H.n2 + 1, c7, H.A3, H.n3, H.c3, H.A4, H.n4, H.c4⟩, B8, T2, own_cap o7, R8, K8⟩⟩
    refine aC rfl (fun K hK => ?_) aN
    ·go_simp
     refine (newCard_any A n c 0 s.card _ X (by omega)).mono ?_
     rintro e w5 ⟨An, cn, rfl, on, b⟩
     have WX : Below w5.heap.size w5 (w5.alloc (.cells #[.int .i64 s.card.number, .int .i64 s.card.start, .int .i64 s.card.finish, .slice An n cn] 31)) := (Below.refl _ _).alloc (Nat.le_refl _) _
     have BA : Blk (w5.alloc (.cells #[.int .i64 s.card.number, .int .i64 s.card.start, .int .i64 s.card.finish, .slice An n cn] 31)) w5.heap.size 31 [.int .i64 s.card.number, .int .i64 s.card.start, .int .i64 s.card.finish, .slice An n cn] := Blk.at_ rfl
     have HLOW := Lib.hid (fun b (hb : OwnB An b) => own_top on hb)
     have B1 := B.next b
     have Q1 := Q.next b
     have Q2 := Q1.next WX
     have R2 := (R.next b).next WX
     have B2 := B1.next WX
     have MQ2 := (MQ.next b).next WX
     have on2 := own_below on WX
     have Kd := bel_then b WX
     have K2 := bel_then (bel_then Kq b) WX
     have zw5 : w5.heap.size + 1 ≤ (w5.alloc (.cells #[.int .i64 s.card.number, .int .i64 s.card.start, .int .i64 s.card.finish, .slice An n cn] 31)).heap.size := by simp
     clear on b
     have qb := B1.cell
     have qb2 := B2.cell
     have qf := B1.frozen
     have qq := Q1.cell
     have qq2 := Q2.cell
     go_wp2_with fail
     refine hK.out _ _ (by (try dsimp only); first | exact ⟨pq 2, pq 3, pq 4, pq 5⟩ | exact ⟨qq 2, qq 3, qq 4, qq 5⟩ | exact ⟨qq2 2, qq2 3, qq2 4, qq2 5⟩ | exact ⟨pq7 2, pq7 3, pq7 4, pq7 5⟩) (fun hH => ?_)
     clear hK K
     refine wR (rs := [1, 5]) (by kernel_rfl) (by simp) ?_
     refine aC rfl (fun K hK => ?_) ?_
     ·go_simp
      refine hK.out _ _ (by (try dsimp only); first | exact ⟨pq 2, pq 3, pq 4, pq 5⟩ | exact ⟨qq 2, qq 3, qq 4, qq 5⟩ | exact ⟨qq2 2, qq2 3, qq2 4, qq2 5⟩ | exact ⟨pq7 2, pq7 3, pq7 4, pq7 5⟩) (fun hH => ?_)
      clear hK K
      try simp only [Act.put, pX]
      refine wR (rs := [5]) (by kernel_rfl) (by simp) ?_
      refine aC rfl (fun K hK => ?_) aN
      go_simp
      refine hK.out _ _ (by (try dsimp only); first | exact ⟨pq 2, pq 3, pq 4, pq 5⟩ | exact ⟨qq 2, qq 3, qq 4, qq 5⟩ | exact ⟨qq2 2, qq2 3, qq2 4, qq2 5⟩ | exact ⟨pq7 2, pq7 3, pq7 4, pq7 5⟩) (fun hH => ?_)
      clear hK K
      try simp only [Act.put, pX]
      refine wR (rs := [6]) (by kernel_rfl) (by simp) ?_
      refine aC rfl (fun K hK => ?_) aN
      refine step_cat rfl _ _ _ (by rfl) Tryz.underlying25 info_impl_Card rfl (by decide) (by rfl) MQ2.outer.own (by rfl) (m := 1) (BA.sees (s := 4) (Nat.zero_le _) rfl) (by rfl) (show H.n2 ≤ 1000000000 by omega) (by omega) (by decide) (Nat.zero_le _) ?_
      intro A7 c7 w7 o7 h7 b7 q7
      have B7 := B2.only h7 (fun h => hg (hA2 g h).1)
      have Q7 := Q2.only h7 (fun h => by have := (hS2 _ (hA2 _ h).1).2; omega)
      have R7 := R2.only h7 (fun h => by have := (hS2 _ (hA2 _ h).1).2; omega)
      have K7 := K2.trans (h7.below (fun b hb => by have := (hS2 _ (hA2 _ hb).1).2; omega) K2.size)
      have f7 := B7.frozen
      have p7 := B7.cell
      have pq7 := Q7.cell
      have hst : Only (fun b => b = g) w7 (w7.setCell ⟨g, 2, none⟩ (.slice A7 (H.n2 + 1) c7)) := (Only.refl (fun b => b = g) w7).setCell (p := ⟨g, 2, none⟩) rfl _
      have B8 := B7.set_ 2 (.slice A7 (H.n2 + 1) c7)
      have pq8 := (Q7.only hst (fun h => by omega)).cell
      refine hK.out _ _ (by (try dsimp only); first | exact ⟨pq 2, pq 3, pq 4, pq 5⟩ | exact ⟨qq 2, qq 3, qq 4, qq 5⟩ | exact ⟨qq2 2, qq2 3, qq2 4, qq2 5⟩ | exact ⟨pq7 2, pq7 3, pq7 4, pq7 5⟩) (fun hH => ?_)
      clear hK K
      try simp only [Act.put, pX]
      refine wT (i := 7) (v := ?_) rfl (by kernel_rfl) (by kernel_rfl) (by kernel_rfl) (fun _ _ _ h => h) (Or.inl ⟨by rfl, ?_⟩) (by assumption) ?_
      rotate_left 1
      ·(intro w hSw; (try dsimp only at hSw); go_simp; try with_reducible rfl)
      simp only [Act.put, pX]
      refine wR (rs := [8]) (by kernel_rfl) (by simp) ?_
      refine aC rfl (fun K hK => ?_) aN
      go_simp
      refine hK.out _ _ (by (try dsimp only); exact ⟨pq8 2, pq8 3, pq8 4, pq8 5⟩) (fun hH => ?_)
      clear hK K
      try simp only [Act.put, pX]
      refine wD (by kernel_rfl) ?_ _
      have hz7 := hst.size
      have hz6 := h7.size
      have hz5 := Kd.size
      have hgl7 := B7.lt
      have hapq : ∀ b, OwnB An b → OwnB A7 b → False := fun b h1 h2 => by
       have h3 := HLOW.out b h1
       rcases q7 b h2 with h4 | h4
       ·have := hS b (hA2 b h4).1; omega
       ·omega
      have T := MineCW.arrive (r := ⟨s.card, An, n, cn⟩) (T1 := OwnB An) (T7 := OwnB A7) (n7 := H.n2 + 1) mc hS hrq MQ.inners MQ.apart hA2 ((Only.of_below Kd).trans h7) (fun b hb => .inl hb) ⟨own_base (own_only on2 h7 (fun b h1 h2 => by have := hS b (hA2 b h2).1; have := (HLOW.out b h1).1; omega)) (Nat.zero_le _), fun b hb => hb⟩ (fun b hb => by have := HLOW.out b hb; exact ⟨by omega, by omega⟩) ⟨by rw [flat_snoc]; exact o7, fun b hb => hb⟩ (fun b hb => (q7 b hb).imp id fun h => ⟨by omega, (own_top o7 hb).2⟩) hapq
      have T2 := (T.toW.only hst (fun b h1 (h2 : b = g) => by
       rcases h1 with h1 | h1
       ·exact hg (h2 ▸ h1)
       ·have := B.lt; omega)).wide (T := fun b => b ≠ g ∧ w.heap.size + 3 ≤ b ∧ b < (w7.setCell ⟨g, 2, none⟩ (.slice A7 (H.n2 + 1) c7)).heap.size) (fun b h1 => by
       rcases h1 with h1 | h1
       ·exact ⟨(hS2 b h1).1, (hS2 b h1).2, by have := hS b h1; omega⟩
       ·have := B.lt; exact ⟨by omega, by omega, by omega⟩)
      have K8 := K7.trans (hst.below (fun b hb => by omega) K7.size)
      have R8 := R7.only hst (fun h => by omega)
      go_wp2_with fail
      go_meet
      exact ⟨by rw [HOK.out], by rw [HOUT.out]; exact ⟨⟨H.A0, H.n0, H.c0, H.A1, H.n1, H.c1, A7, H.n2 + 1, c7, H.A3, H.n3, H.c3, H.A4, H.n4, H.c4⟩, B8, T2, own_cap o7, R8, K8⟩⟩
     refine aC rfl (fun K hK => ?_) aN
     ·go_simp
      refine hK.out _ _ (by (try dsimp only); first | exact ⟨pq 2, pq 3, pq 4, pq 5⟩ | exact ⟨qq 2, qq 3, qq 4, qq 5⟩ | exact ⟨qq2 2, qq2 3, qq2 4, qq2 5⟩ | exact ⟨pq7 2, pq7 3, pq7 4, pq7 5⟩) (fun hH => ?_)
      clear hK K
      try simp only [Act.put, pX]
      refine wR (rs := [1]) (by kernel_rfl) (by simp) ?_
      refine aC rfl (fun K hK => ?_) aN
      go_simp
      refine hK.out _ _ (by (try dsimp only); first | exact ⟨pq 2, pq 3, pq 4, pq 5⟩ | exact ⟨qq 2, qq 3, qq 4, qq 5⟩ | exact ⟨qq2 2, qq2 3, qq2 4, qq2 5⟩ | exact ⟨pq7 2, pq7 3, pq7 4, pq7 5⟩) (fun hH => ?_)
      clear hK K
      try simp only [Act.put, pX]
      refine wR (rs := [6]) (by kernel_rfl) (by simp) ?_
      refine aC rfl (fun K hK => ?_) aN
      refine step_cat rfl _ _ _ (by rfl) Tryz.underlying25 info_impl_Card rfl (by decide) (by rfl) MQ2.outer.own (by rfl) (m := 1) (BA.sees (s := 4) (Nat.zero_le _) rfl) (by rfl) (show H.n2 ≤ 1000000000 by omega) (by omega) (by decide) (Nat.zero_le _) ?_
      intro A7 c7 w7 o7 h7 b7 q7
      have B7 := B2.only h7 (fun h => hg (hA2 g h).1)
      have Q7 := Q2.only h7 (fun h => by have := (hS2 _ (hA2 _ h).1).2; omega)
      have R7 := R2.only h7 (fun h => by have := (hS2 _ (hA2 _ h).1).2; omega)
      have K7 := K2.trans (h7.below (fun b hb => by have := (hS2 _ (hA2 _ hb).1).2; omega) K2.size)
      have f7 := B7.frozen
      have p7 := B7.cell
      have pq7 := Q7.cell
      have hst : Only (fun b => b = g) w7 (w7.setCell ⟨g, 2, none⟩ (.slice A7 (H.n2 + 1) c7)) := (Only.refl (fun b => b = g) w7).setCell (p := ⟨g, 2, none⟩) rfl _
      have B8 := B7.set_ 2 (.slice A7 (H.n2 + 1) c7)
      have pq8 := (Q7.only hst (fun h => by omega)).cell
      refine hK.out _ _ (by (try dsimp only); first | exact ⟨pq 2, pq 3, pq 4, pq 5⟩ | exact ⟨qq 2, qq 3, qq 4, qq 5⟩ | exact ⟨qq2 2, qq2 3, qq2 4, qq2 5⟩ | exact ⟨pq7 2, pq7 3, pq7 4, pq7 5⟩) (fun hH => ?_)
      clear hK K
      try simp only [Act.put, pX]
      refine wT (i := 7) (v := ?_) rfl (by kernel_rfl) (by kernel_rfl) (by kernel_rfl) (fun _ _ _ h => h) (Or.inl ⟨by rfl, ?_⟩) (by assumption) ?_
      rotate_left 1
      ·(intro w hSw; (try dsimp only at hSw); go_simp; try with_reducible rfl)
      simp only [Act.put, pX]
      refine wR (rs := [8]) (by kernel_rfl) (by simp) ?_
      refine aC rfl (fun K hK => ?_) aN
      go_simp
      refine hK.out _ _ (by (try dsimp only); exact ⟨pq8 2, pq8 3, pq8 4, pq8 5⟩) (fun hH => ?_)
      clear hK K
      try simp only [Act.put, pX]
      refine wD (by kernel_rfl) ?_ _
      have hz7 := hst.size
      have hz6 := h7.size
      have hz5 := Kd.size
      have hgl7 := B7.lt
      have hapq : ∀ b, OwnB An b → OwnB A7 b → False := fun b h1 h2 => by
       have h3 := HLOW.out b h1
       rcases q7 b h2 with h4 | h4
       ·have := hS b (hA2 b h4).1; omega
       ·omega
      have T := MineCW.arrive (r := ⟨s.card, An, n, cn⟩) (T1 := OwnB An) (T7 := OwnB A7) (n7 := H.n2 + 1) mc hS hrq MQ.inners MQ.apart hA2 ((Only.of_below Kd).trans h7) (fun b hb => .inl hb) ⟨own_base (own_only on2 h7 (fun b h1 h2 => by have := hS b (hA2 b h2).1; have := (HLOW.out b h1).1; omega)) (Nat.zero_le _), fun b hb => hb⟩ (fun b hb => by have := HLOW.out b hb; exact ⟨by omega, by omega⟩) ⟨by rw [flat_snoc]; exact o7, fun b hb => hb⟩ (fun b hb => (q7 b hb).imp id fun h => ⟨by omega, (own_top o7 hb).2⟩) hapq
      have T2 := (T.toW.only hst (fun b h1 (h2 : b = g) => by
       rcases h1 with h1 | h1
       ·exact hg (h2 ▸ h1)
       ·have := B.lt; omega)).wide (T := fun b => b ≠ g ∧ w.heap.size + 3 ≤ b ∧ b < (w7.setCell ⟨g, 2, none⟩ (.slice A7 (H.n2 + 1) c7)).heap.size) (fun b h1 => by
       rcases h1 with h1 | h1
       ·exact ⟨(hS2 b h1).1, (hS2 b h1).2, by have := hS b h1; omega⟩
       ·have := B.lt; exact ⟨by omega, by omega, by omega⟩)
      have K8 := K7.trans (hst.below (fun b hb => by omega) K7.size)
      have R8 := R7.only hst (fun h => by omega)
      go_wp2_with fail
      go_meet
      exact ⟨by rw [HOK.out], by rw [HOUT.out]; exact ⟨⟨H.A0, H.n0, H.c0, H.A1, H.n1, H.c1, A7, H.n2 + 1, c7, H.A3, H.n3, H.c3, H.A4, H.n4, H.c4⟩, B8, T2, own_cap o7, R8, K8⟩⟩
   ·have f2 : (s.number == 0) = false := beq_eq_false_iff_ne.2 n0
    have HOK := Lib.hid (show stepOk d s = false by rw [HOK0.out]; simp [n0])
    clear n0 HOK0
    go_upto_region 5 with fail
    have pbw := B.cell
    have pfw := B.frozen
    have pqw := Q.cell
    have b := (Quiet.one w3).below w3.heap.size
    clear pb pf pq
    replace B := B.next b
    replace Q := Q.next b
    replace R := R.next b
    replace X := X.next b
    replace mc := mc.next b
    replace MQ := MQ.next b
    replace MR := MR.next b
    replace Kq := bel_then Kq b
    replace Kt := bel_then Kt b
    replace hS := fun x (hx : S x) => Nat.lt_of_lt_of_le (hS x hx) b.size
    have pb := B.cell
    have pf := B.frozen
    have pq := Q.cell
    clear b
    go_wp2_with fail
    refine wp_region_held_drew (S := fun w' => w'.cell? ⟨w.heap.size + 1, 2, none⟩ = some (.int .i64 s.cnumber) ∧ w'.cell? ⟨w.heap.size + 1, 3, none⟩ = some (.int .i64 s.cstart) ∧ w'.cell? ⟨w.heap.size + 1, 4, none⟩ = some (.int .i64 s.cfinish) ∧ w'.cell? ⟨w.heap.size + 1, 5, none⟩ = some (.slice A n c)) (by kernel_rfl) (by (try dsimp only); first | exact ⟨pq 2, pq 3, pq 4, pq 5⟩ | exact ⟨qq 2, qq 3, qq 4, qq 5⟩ | exact ⟨qq2 2, qq2 3, qq2 4, qq2 5⟩ | exact ⟨pq7 2, pq7 3, pq7 4, pq7 5⟩) (fun hH => ?_)
    refine wT (i := 0) (v := ?_) rfl (by kernel_rfl) (by kernel_rfl) (by kernel_rfl) (fun _ _ _ h => h) (Or.inl ⟨by rfl, ?_⟩) (by assumption) ?_
    rotate_left 1
    ·(intro w hSw; (try dsimp only at hSw); go_simp; try with_reducible rfl)
    simp only [Act.put, pX]
    refine wT (i := 2) (v := ?_) rfl (by kernel_rfl) (by kernel_rfl) (by kernel_rfl) (fun _ _ _ h => h) (Or.inl ⟨by rfl, ?_⟩) (by assumption) ?_
    rotate_left 1
    ·(intro w hSw; (try dsimp only at hSw); go_simp; try with_reducible rfl)
    simp only [Act.put, pX]
    refine wT (i := 3) (v := ?_) rfl (by kernel_rfl) (by kernel_rfl) (by kernel_rfl) (fun _ _ _ h => h) (Or.inl ⟨by rfl, ?_⟩) (by assumption) ?_
    rotate_left 1
    ·(intro w hSw; (try dsimp only at hSw); go_simp; try with_reducible rfl)
    simp only [Act.put, pX]
    refine wR (rs := [1, 4]) (by kernel_rfl) (by simp) ?_
    refine aC rfl (fun K hK => ?_) ?_
    ·go_simp
     refine hK.out _ _ (by (try dsimp only); first | exact ⟨pq 2, pq 3, pq 4, pq 5⟩ | exact ⟨qq 2, qq 3, qq 4, qq 5⟩ | exact ⟨qq2 2, qq2 3, qq2 4, qq2 5⟩ | exact ⟨pq7 2, pq7 3, pq7 4, pq7 5⟩) (fun hH => ?_)
     clear hK K
     try simp only [Act.put, pX]
     refine wR (rs := [4]) (by kernel_rfl) (by simp) ?_
     refine aC rfl (fun K hK => ?_) aN
     go_simp
     refine (newCard_any A n c 0 s.card _ X (by omega)).mono ?_
     rintro e w5 ⟨An, cn, rfl, on, b⟩
     have WX : Below w5.heap.size w5 (w5.alloc (.cells #[.int .i64 s.card.number, .int .i64 s.card.start, .int .i64 s.card.finish, .slice An n cn] 31)) := (Below.refl _ _).alloc (Nat.le_refl _) _
     have BA : Blk (w5.alloc (.cells #[.int .i64 s.card.number, .int .i64 s.card.start, .int .i64 s.card.finish, .slice An n cn] 31)) w5.heap.size 31 [.int .i64 s.card.number, .int .i64 s.card.start, .int .i64 s.card.finish, .slice An n cn] := Blk.at_ rfl
     have HLOW := Lib.hid (fun b (hb : OwnB An b) => own_top on hb)
     have B1 := B.next b
     have Q1 := Q.next b
     have Q2 := Q1.next WX
     have R2 := (R.next b).next WX
     have B2 := B1.next WX
     have MQ2 := (MQ.next b).next WX
     have on2 := own_below on WX
     have Kd := bel_then b WX
     have K2 := bel_then (bel_then Kq b) WX
     have zw5 : w5.heap.size + 1 ≤ (w5.alloc (.cells #[.int .i64 s.card.number, .int .i64 s.card.start, .int .i64 s.card.finish, .slice An n cn] 31)).heap.size := by simp
     clear on b
     have qb := B1.cell
     have qb2 := B2.cell
     have qf := B1.frozen
     have qq := Q1.cell
     have qq2 := Q2.cell
     go_wp2_with fail
     refine hK.out _ _ (by (try dsimp only); first | exact ⟨pq 2, pq 3, pq 4, pq 5⟩ | exact ⟨qq 2, qq 3, qq 4, qq 5⟩ | exact ⟨qq2 2, qq2 3, qq2 4, qq2 5⟩ | exact ⟨pq7 2, pq7 3, pq7 4, pq7 5⟩) (fun hH => ?_)
     clear hK K
     refine wR (rs := [5]) (by kernel_rfl) (by simp) ?_
     refine aC rfl (fun K hK => ?_) aN
     go_simp
     refine hK.out _ _ (by (try dsimp only); first | exact ⟨pq 2, pq 3, pq 4, pq 5⟩ | exact ⟨qq 2, qq 3, qq 4, qq 5⟩ | exact ⟨qq2 2, qq2 3, qq2 4, qq2 5⟩ | exact ⟨pq7 2, pq7 3, pq7 4, pq7 5⟩) (fun hH => ?_)
     clear hK K
     try simp only [Act.put, pX]
     refine wR (rs := [6]) (by kernel_rfl) (by simp) ?_
     refine aC rfl (fun K hK => ?_) aN
     refine step_cat rfl _ _ _ (by rfl) Tryz.underlying25 info_impl_Card rfl (by decide) (by rfl) MQ2.outer.own (by rfl) (m := 1) (BA.sees (s := 4) (Nat.zero_le _) rfl) (by rfl) (show H.n2 ≤ 1000000000 by omega) (by omega) (by decide) (Nat.zero_le _) ?_
     intro A7 c7 w7 o7 h7 b7 q7
     have B7 := B2.only h7 (fun h => hg (hA2 g h).1)
     have Q7 := Q2.only h7 (fun h => by have := (hS2 _ (hA2 _ h).1).2; omega)
     have R7 := R2.only h7 (fun h => by have := (hS2 _ (hA2 _ h).1).2; omega)
     have K7 := K2.trans (h7.below (fun b hb => by have := (hS2 _ (hA2 _ hb).1).2; omega) K2.size)
     have f7 := B7.frozen
     have p7 := B7.cell
     have pq7 := Q7.cell
     have hst : Only (fun b => b = g) w7 (w7.setCell ⟨g, 2, none⟩ (.slice A7 (H.n2 + 1) c7)) := (Only.refl (fun b => b = g) w7).setCell (p := ⟨g, 2, none⟩) rfl _
     have B8 := B7.set_ 2 (.slice A7 (H.n2 + 1) c7)
     have pq8 := (Q7.only hst (fun h => by omega)).cell
     refine hK.out _ _ (by (try dsimp only); first | exact ⟨pq 2, pq 3, pq 4, pq 5⟩ | exact ⟨qq 2, qq 3, qq 4, qq 5⟩ | exact ⟨qq2 2, qq2 3, qq2 4, qq2 5⟩ | exact ⟨pq7 2, pq7 3, pq7 4, pq7 5⟩) (fun hH => ?_)
     clear hK K
     try simp only [Act.put, pX]
     refine wT (i := 7) (v := ?_) rfl (by kernel_rfl) (by kernel_rfl) (by kernel_rfl) (fun _ _ _ h => h) (Or.inl ⟨by rfl, ?_⟩) (by assumption) ?_
     rotate_left 1
     ·(intro w hSw; (try dsimp only at hSw); go_simp; try with_reducible rfl)
     simp only [Act.put, pX]
     refine wR (rs := [8]) (by kernel_rfl) (by simp) ?_
     refine aC rfl (fun K hK => ?_) aN
     go_simp
     refine hK.out _ _ (by (try dsimp only); exact ⟨pq8 2, pq8 3, pq8 4, pq8 5⟩) (fun hH => ?_)
     clear hK K
     try simp only [Act.put, pX]
     refine wD (by kernel_rfl) ?_ _
     have hz7 := hst.size
     have hz6 := h7.size
     have hz5 := Kd.size
     have hgl7 := B7.lt
     have hapq : ∀ b, OwnB An b → OwnB A7 b → False := fun b h1 h2 => by
      have h3 := HLOW.out b h1
      rcases q7 b h2 with h4 | h4
      ·have := hS b (hA2 b h4).1; omega
      ·omega
     have T := MineCW.arrive (r := ⟨s.card, An, n, cn⟩) (T1 := OwnB An) (T7 := OwnB A7) (n7 := H.n2 + 1) mc hS hrq MQ.inners MQ.apart hA2 ((Only.of_below Kd).trans h7) (fun b hb => .inl hb) ⟨own_base (own_only on2 h7 (fun b h1 h2 => by have := hS b (hA2 b h2).1; have := (HLOW.out b h1).1; omega)) (Nat.zero_le _), fun b hb => hb⟩ (fun b hb => by have := HLOW.out b hb; exact ⟨by omega, by omega⟩) ⟨by rw [flat_snoc]; exact o7, fun b hb => hb⟩ (fun b hb => (q7 b hb).imp id fun h => ⟨by omega, (own_top o7 hb).2⟩) hapq
     have T2 := (T.toW.only hst (fun b h1 (h2 : b = g) => by
      rcases h1 with h1 | h1
      ·exact hg (h2 ▸ h1)
      ·have := B.lt; omega)).wide (T := fun b => b ≠ g ∧ w.heap.size + 3 ≤ b ∧ b < (w7.setCell ⟨g, 2, none⟩ (.slice A7 (H.n2 + 1) c7)).heap.size) (fun b h1 => by
      rcases h1 with h1 | h1
      ·exact ⟨(hS2 b h1).1, (hS2 b h1).2, by have := hS b h1; omega⟩
      ·have := B.lt; exact ⟨by omega, by omega, by omega⟩)
     have K8 := K7.trans (hst.below (fun b hb => by omega) K7.size)
     have R8 := R7.only hst (fun h => by omega)
     go_wp2_with fail
     go_meet
     exact ⟨by rw [HOK.out], by rw [HOUT.out]; exact ⟨⟨H.A0, H.n0, H.c0, H.A1, H.n1, H.c1, A7, H.n2 + 1, c7, H.A3, H.n3, H.c3, H.A4, H.n4, H.c4⟩, B8, T2, own_cap o7, R8, K8⟩⟩
    refine aC rfl (fun K hK => ?_) aN
    ·go_simp
     refine (newCard_any A n c 0 s.card _ X (by omega)).mono ?_
     rintro e w5 ⟨An, cn, rfl, on, b⟩
     have WX : Below w5.heap.size w5 (w5.alloc (.cells #[.int .i64 s.card.number, .int .i64 s.card.start, .int .i64 s.card.finish, .slice An n cn] 31)) := (Below.refl _ _).alloc (Nat.le_refl _) _
     have BA : Blk (w5.alloc (.cells #[.int .i64 s.card.number, .int .i64 s.card.start, .int .i64 s.card.finish, .slice An n cn] 31)) w5.heap.size 31 [.int .i64 s.card.number, .int .i64 s.card.start, .int .i64 s.card.finish, .slice An n cn] := Blk.at_ rfl
     have HLOW := Lib.hid (fun b (hb : OwnB An b) => own_top on hb)
     have B1 := B.next b
     have Q1 := Q.next b
     have Q2 := Q1.next WX
     have R2 := (R.next b).next WX
     have B2 := B1.next WX
     have MQ2 := (MQ.next b).next WX
     have on2 := own_below on WX
     have Kd := bel_then b WX
     have K2 := bel_then (bel_then Kq b) WX
     have zw5 : w5.heap.size + 1 ≤ (w5.alloc (.cells #[.int .i64 s.card.number, .int .i64 s.card.start, .int .i64 s.card.finish, .slice An n cn] 31)).heap.size := by simp
     clear on b
     have qb := B1.cell
     have qb2 := B2.cell
     have qf := B1.frozen
     have qq := Q1.cell
     have qq2 := Q2.cell
     go_wp2_with fail
     refine hK.out _ _ (by (try dsimp only); first | exact ⟨pq 2, pq 3, pq 4, pq 5⟩ | exact ⟨qq 2, qq 3, qq 4, qq 5⟩ | exact ⟨qq2 2, qq2 3, qq2 4, qq2 5⟩ | exact ⟨pq7 2, pq7 3, pq7 4, pq7 5⟩) (fun hH => ?_)
     clear hK K
     refine wR (rs := [1, 5]) (by kernel_rfl) (by simp) ?_
     refine aC rfl (fun K hK => ?_) ?_
     ·go_simp
      refine hK.out _ _ (by (try dsimp only); first | exact ⟨pq 2, pq 3, pq 4, pq 5⟩ | exact ⟨qq 2, qq 3, qq 4, qq 5⟩ | exact ⟨qq2 2, qq2 3, qq2 4, qq2 5⟩ | exact ⟨pq7 2, pq7 3, pq7 4, pq7 5⟩) (fun hH => ?_)
      clear hK K
      try simp only [Act.put, pX]
      refine wR (rs := [5]) (by kernel_rfl) (by simp) ?_
      refine aC rfl (fun K hK => ?_) aN
      go_simp
      refine hK.out _ _ (by (try dsimp only); first | exact ⟨pq 2, pq 3, pq 4, pq 5⟩ | exact ⟨qq 2, qq 3, qq 4, qq 5⟩ | exact ⟨qq2 2, qq2 3, qq2 4, qq2 5⟩ | exact ⟨pq7 2, pq7 3, pq7 4, pq7 5⟩) (fun hH => ?_)
      clear hK K
      try simp only [Act.put, pX]
      refine wR (rs := [6]) (by kernel_rfl) (by simp) ?_
      refine aC rfl (fun K hK => ?_) aN
      refine step_cat rfl _ _ _ (by rfl) Tryz.underlying25 info_impl_Card rfl (by decide) (by rfl) MQ2.outer.own (by rfl) (m := 1) (BA.sees (s := 4) (Nat.zero_le _) rfl) (by rfl) (show H.n2 ≤ 1000000000 by omega) (by omega) (by decide) (Nat.zero_le _) ?_
      intro A7 c7 w7 o7 h7 b7 q7
      have B7 := B2.only h7 (fun h => hg (hA2 g h).1)
      have Q7 := Q2.only h7 (fun h => by have := (hS2 _ (hA2 _ h).1).2; omega)
      have R7 := R2.only h7 (fun h => by have := (hS2 _ (hA2 _ h).1).2; omega)
      have K7 := K2.trans (h7.below (fun b hb => by have := (hS2 _ (hA2 _ hb).1).2; omega) K2.size)
      have f7 := B7.frozen
      have p7 := B7.cell
      have pq7 := Q7.cell
      have hst : Only (fun b => b = g) w7 (w7.setCell ⟨g, 2, none⟩ (.slice A7 (H.n2 + 1) c7)) := (Only.refl (fun b => b = g) w7).setCell (p := ⟨g, 2, none⟩) rfl _
      have B8 := B7.set_ 2 (.slice A7 (H.n2 + 1) c7)
      have pq8 := (Q7.only hst (fun h => by omega)).cell
      refine hK.out _ _ (by (try dsimp only); first | exact ⟨pq 2, pq 3, pq 4, pq 5⟩ | exact ⟨qq 2, qq 3, qq 4, qq 5⟩ | exact ⟨qq2 2, qq2 3, qq2 4, qq2 5⟩ | exact ⟨pq7 2, pq7 3, pq7 4, pq7 5⟩) (fun hH => ?_)
      clear hK K
      try simp only [Act.put, pX]
      refine wT (i := 7) (v := ?_) rfl (by kernel_rfl) (by kernel_rfl) (by kernel_rfl) (fun _ _ _ h => h) (Or.inl ⟨by rfl, ?_⟩) (by assumption) ?_
      rotate_left 1
      ·(intro w hSw; (try dsimp only at hSw); go_simp; try with_reducible rfl)
      simp only [Act.put, pX]
      refine wR (rs := [8]) (by kernel_rfl) (by simp) ?_
      refine aC rfl (fun K hK => ?_) aN
      go_simp
      refine hK.out _ _ (by (try dsimp only); exact ⟨pq8 2, pq8 3, pq8 4, pq8 5⟩) (fun hH => ?_)
      clear hK K
      try simp only [Act.put, pX]
      refine wD (by kernel_rfl) ?_ _
      have hz7 := hst.size
      have hz6 := h7.size
      have hz5 := Kd.size
      have hgl7 := B7.lt
      have hapq : ∀ b, OwnB An b → OwnB A7 b → False := fun b h1 h2 => by
       have h3 := HLOW.out b h1
       rcases q7 b h2 with h4 | h4
       ·have := hS b (hA2 b h4).1; omega
       ·omega
      have T := MineCW.arrive (r := ⟨s.card, An, n, cn⟩) (T1 := OwnB An) (T7 := OwnB A7) (n7 := H.n2 + 1) mc hS hrq MQ.inners MQ.apart hA2 ((Only.of_below Kd).trans h7) (fun b hb => .inl hb) ⟨own_base (own_only on2 h7 (fun b h1 h2 => by have := hS b (hA2 b h2).1; have := (HLOW.out b h1).1; omega)) (Nat.zero_le _), fun b hb => hb⟩ (fun b hb => by have := HLOW.out b hb; exact ⟨by omega, by omega⟩) ⟨by rw [flat_snoc]; exact o7, fun b hb => hb⟩ (fun b hb => (q7 b hb).imp id fun h => ⟨by omega, (own_top o7 hb).2⟩) hapq
      have T2 := (T.toW.only hst (fun b h1 (h2 : b = g) => by
       rcases h1 with h1 | h1
       ·exact hg (h2 ▸ h1)
       ·have := B.lt; omega)).wide (T := fun b => b ≠ g ∧ w.heap.size + 3 ≤ b ∧ b < (w7.setCell ⟨g, 2, none⟩ (.slice A7 (H.n2 + 1) c7)).heap.size) (fun b h1 => by
       rcases h1 with h1 | h1
       ·exact ⟨(hS2 b h1).1, (hS2 b h1).2, by have := hS b h1; omega⟩
       ·have := B.lt; exact ⟨by omega, by omega, by omega⟩)
      have K8 := K7.trans (hst.below (fun b hb => by omega) K7.size)
      have R8 := R7.only hst (fun h => by omega)
      go_wp2_with fail
      go_meet
      exact ⟨by rw [HOK.out], by rw [HOUT.out]; exact ⟨⟨H.A0, H.n0, H.c0, H.A1, H.n1, H.c1, A7, H.n2 + 1, c7, H.A3, H.n3, H.c3, H.A4, H.n4, H.c4⟩, B8, T2, own_cap o7, R8, K8⟩⟩
     refine aC rfl (fun K hK => ?_) aN
     ·go_simp
      refine hK.out _ _ (by (try dsimp only); first | exact ⟨pq 2, pq 3, pq 4, pq 5⟩ | exact ⟨qq 2, qq 3, qq 4, qq 5⟩ | exact ⟨qq2 2, qq2 3, qq2 4, qq2 5⟩ | exact ⟨pq7 2, pq7 3, pq7 4, pq7 5⟩) (fun hH => ?_)
      clear hK K
      try simp only [Act.put, pX]
      refine wR (rs := [1]) (by kernel_rfl) (by simp) ?_
      refine aC rfl (fun K hK => ?_) aN
      go_simp
      refine hK.out _ _ (by (try dsimp only); first | exact ⟨pq 2, pq 3, pq 4, pq 5⟩ | exact ⟨qq 2, qq 3, qq 4, qq 5⟩ | exact ⟨qq2 2, qq2 3, qq2 4, qq2 5⟩ | exact ⟨pq7 2, pq7 3, pq7 4, pq7 5⟩) (fun hH => ?_)
      clear hK K
      try simp only [Act.put, pX]
      refine wR (rs := [6]) (by kernel_rfl) (by simp) ?_
      refine aC rfl (fun K hK => ?_) aN
      refine step_cat rfl _ _ _ (by rfl) Tryz.underlying25 info_impl_Card rfl (by decide) (by rfl) MQ2.outer.own (by rfl) (m := 1) (BA.sees (s := 4) (Nat.zero_le _) rfl) (by rfl) (show H.n2 ≤ 1000000000 by omega) (by omega) (by decide) (Nat.zero_le _) ?_
      intro A7 c7 w7 o7 h7 b7 q7
      have B7 := B2.only h7 (fun h => hg (hA2 g h).1)
      have Q7 := Q2.only h7 (fun h => by have := (hS2 _ (hA2 _ h).1).2; omega)
      have R7 := R2.only h7 (fun h => by have := (hS2 _ (hA2 _ h).1).2; omega)
      have K7 := K2.trans (h7.below (fun b hb => by have := (hS2 _ (hA2 _ hb).1).2; omega) K2.size)
      have f7 := B7.frozen
      have p7 := B7.cell
      have pq7 := Q7.cell
      have hst : Only (fun b => b = g) w7 (w7.setCell ⟨g, 2, none⟩ (.slice A7 (H.n2 + 1) c7)) := (Only.refl (fun b => b = g) w7).setCell (p := ⟨g, 2, none⟩) rfl _
      have B8 := B7.set_ 2 (.slice A7 (H.n2 + 1) c7)
      have pq8 := (Q7.only hst (fun h => by omega)).cell
      refine hK.out _ _ (by (try dsimp only); first | exact ⟨pq 2, pq 3, pq 4, pq 5⟩ | exact ⟨qq 2, qq 3, qq 4, qq 5⟩ | exact ⟨qq2 2, qq2 3, qq2 4, qq2 5⟩ | exact ⟨pq7 2, pq7 3, pq7 4, pq7 5⟩) (fun hH => ?_)
      clear hK K
      try simp only [Act.put, pX]
      refine wT (i := 7) (v := ?_) rfl (by kernel_rfl) (by kernel_rfl) (by kernel_rfl) (fun _ _ _ h => h) (Or.inl ⟨by rfl, ?_⟩) (by assumption) ?_
      rotate_left 1
      ·(intro w hSw; (try dsimp only at hSw); go_simp; try with_reducible rfl)
      simp only [Act.put, pX]
      refine wR (rs := [8]) (by kernel_rfl) (by simp) ?_
      refine aC rfl (fun K hK => ?_) aN
      go_simp
      refine hK.out _ _ (by (try dsimp only); exact ⟨pq8 2, pq8 3, pq8 4, pq8 5⟩) (fun hH => ?_)
      clear hK K
      try simp only [Act.put, pX]
      refine wD (by kernel_rfl) ?_ _
      have hz7 := hst.size
      have hz6 := h7.size
      have hz5 := Kd.size
      have hgl7 := B7.lt
      have hapq : ∀ b, OwnB An b → OwnB A7 b → False := fun b h1 h2 => by
       have h3 := HLOW.out b h1
       rcases q7 b h2 with h4 | h4
       ·have := hS b (hA2 b h4).1; omega
       ·omega
      have T := MineCW.arrive (r := ⟨s.card, An, n, cn⟩) (T1 := OwnB An) (T7 := OwnB A7) (n7 := H.n2 + 1) mc hS hrq MQ.inners MQ.apart hA2 ((Only.of_below Kd).trans h7) (fun b hb => .inl hb) ⟨own_base (own_only on2 h7 (fun b h1 h2 => by have := hS b (hA2 b h2).1; have := (HLOW.out b h1).1; omega)) (Nat.zero_le _), fun b hb => hb⟩ (fun b hb => by have := HLOW.out b hb; exact ⟨by omega, by omega⟩) ⟨by rw [flat_snoc]; exact o7, fun b hb => hb⟩ (fun b hb => (q7 b hb).imp id fun h => ⟨by omega, (own_top o7 hb).2⟩) hapq
      have T2 := (T.toW.only hst (fun b h1 (h2 : b = g) => by
       rcases h1 with h1 | h1
       ·exact hg (h2 ▸ h1)
       ·have := B.lt; omega)).wide (T := fun b => b ≠ g ∧ w.heap.size + 3 ≤ b ∧ b < (w7.setCell ⟨g, 2, none⟩ (.slice A7 (H.n2 + 1) c7)).heap.size) (fun b h1 => by
       rcases h1 with h1 | h1
       ·exact ⟨(hS2 b h1).1, (hS2 b h1).2, by have := hS b h1; omega⟩
       ·have := B.lt; exact ⟨by omega, by omega, by omega⟩)
      have K8 := K7.trans (hst.below (fun b hb => by omega) K7.size)
      have R8 := R7.only hst (fun h => by omega)
      go_wp2_with fail
      go_meet
      exact ⟨by rw [HOK.out], by rw [HOUT.out]; exact ⟨⟨H.A0, H.n0, H.c0, H.A1, H.n1, H.c1, A7, H.n2 + 1, c7, H.A3, H.n3, H.c3, H.A4, H.n4, H.c4⟩, B8, T2, own_cap o7, R8, K8⟩⟩
  by_cases k2 : s.kind = 2
  ·have HOUT0 := Lib.hid (show stepOut d s = if (decide (s.number = 0) && zeroB s.card) && decide (0 < d.queue.length) then checkD d else d by unfold stepOut; rw [if_neg k1, if_pos k2])
   have HOK0 := Lib.hid (show stepOk d s = ((decide (s.number = 0) && zeroB s.card) && decide (0 < d.queue.length)) by unfold stepOk; rw [if_neg k1, if_pos k2])
   have f1 : (s.kind == 1) = false := beq_eq_false_iff_ne.2 k1
   have f2 : (s.kind == 2) = true := beq_iff_eq.2 k2
   clear k1 k2
   by_cases n0 : s.number = 0
   rotate_left 1
   ·have f3 : (s.number == 0) = false := beq_eq_false_iff_ne.2 n0
    have HOK := Lib.hid (show stepOk d s = false by rw [HOK0.out]; simp [n0])
    have HOUT := Lib.hid (show stepOut d s = d by rw [HOUT0.out]; simp [n0])
    clear n0 HOK0 HOUT0
    go_wp2_with fail
    go_meet
    exact ⟨by rw [HOK.out], by rw [HOUT.out]; exact ⟨H, B, MineW.wide (MineD.toW ⟨col, mc, rsq, hrq, MQ⟩) (fun b hb => ⟨(hS2 b hb).1, (hS2 b hb).2, hS b hb⟩), C2, R, Kq⟩⟩
   have f3 : (s.number == 0) = true := beq_iff_eq.2 n0
   have N0 := Lib.hid n0
   clear n0
   cases hz : zeroB s.card
   ·have HOK := Lib.hid (show stepOk d s = false by rw [HOK0.out, hz]; simp)
    have HOUT := Lib.hid (show stepOut d s = d by rw [HOUT0.out, hz]; simp)
    have HZ := Lib.hid hz
    clear hz HOK0 HOUT0
    go_wp2_with (go_at_call 73
                 refine (isZeroCard_any A n c 0 s.card _ X).mono ?_
                 rw [HZ.out]
                 rintro e w4 ⟨rfl, b⟩
                 clear pb pf pq
                 replace B := B.next b
                 replace Q := Q.next b
                 replace R := R.next b
                 replace X := X.next b
                 replace mc := mc.next b
                 replace MQ := MQ.next b
                 replace MR := MR.next b
                 replace Kq := bel_then Kq b
                 replace Kt := bel_then Kt b
                 replace hS := fun x (hx : S x) => Nat.lt_of_lt_of_le (hS x hx) b.size
                 have pb := B.cell
                 have pf := B.frozen
                 have pq := Q.cell
                 clear b)
    go_meet
    exact ⟨by rw [HOK.out], by rw [HOUT.out]; exact ⟨H, B, MineW.wide (MineD.toW ⟨col, mc, rsq, hrq, MQ⟩) (fun b hb => ⟨(hS2 b hb).1, (hS2 b hb).2, hS b hb⟩), C2, R, Kq⟩⟩
   rcases Nat.eq_zero_or_pos H.n2 with hq0 | hq0
   ·have hpos : ¬ (0 : Int) < (H.n2 : Int) := by omega
    have hpn : ¬ 0 < H.n2 := by omega
    have hdn : decide (0 < H.n2) = false := decide_eq_false hpn
    have hdq : ¬ 0 < d.queue.length := by rw [← HLEN.out.2.2.1]; omega
    have HOK := Lib.hid (show stepOk d s = false by rw [HOK0.out]; simp [hdq])
    have HOUT := Lib.hid (show stepOut d s = d by rw [HOUT0.out]; simp [hdq])
    have HZ := Lib.hid hz
    clear hz HOK0 HOUT0 hq0 hdq
    go_wp2_with (go_at_call 73
                 refine (isZeroCard_any A n c 0 s.card _ X).mono ?_
                 rw [HZ.out]
                 rintro e w4 ⟨rfl, b⟩
                 clear pb pf pq
                 replace B := B.next b
                 replace Q := Q.next b
                 replace R := R.next b
                 replace X := X.next b
                 replace mc := mc.next b
                 replace MQ := MQ.next b
                 replace MR := MR.next b
                 replace Kq := bel_then Kq b
                 replace Kt := bel_then Kt b
                 replace hS := fun x (hx : S x) => Nat.lt_of_lt_of_le (hS x hx) b.size
                 have pb := B.cell
                 have pf := B.frozen
                 have pq := Q.cell
                 clear b)
    go_meet
    exact ⟨by rw [HOK.out], by rw [HOUT.out]; exact ⟨H, B, MineW.wide (MineD.toW ⟨col, mc, rsq, hrq, MQ⟩) (fun b hb => ⟨(hS2 b hb).1, (hS2 b hb).2, hS b hb⟩), C2, R, Kq⟩⟩
   have hpos : (0 : Int) < (H.n2 : Int) := by omega
   have hpn : 0 < H.n2 := hq0
   have hdn : decide (0 < H.n2) = true := decide_eq_true hpn
   have hdq : 0 < d.queue.length := by rw [← HLEN.out.2.2.1]; omega
   have HOK := Lib.hid (show stepOk d s = true by rw [HOK0.out, hz]; simp [N0.out, hdq])
   have HOUT := Lib.hid (show stepOut d s = checkD d by rw [HOUT0.out, hz]; simp [N0.out, hdq])
   have HZ := Lib.hid hz
   have HK := Lib.hid (show H.n2 = (H.n2 - 1) + 1 by omega)
   clear hz HOK0 HOUT0 hq0 hdq
   go_upto_region 9 with (go_at_call 73
                          refine (isZeroCard_any A n c 0 s.card _ X).mono ?_
                          rw [HZ.out]
                          rintro e w4 ⟨rfl, b⟩
                          clear pb pf pq
                          replace B := B.next b
                          replace Q := Q.next b
                          replace R := R.next b
                          replace X := X.next b
                          replace mc := mc.next b
                          replace MQ := MQ.next b
                          replace MR := MR.next b
                          replace Kq := bel_then Kq b
                          replace Kt := bel_then Kt b
                          replace hS := fun x (hx : S x) => Nat.lt_of_lt_of_le (hS x hx) b.size
                          have pb := B.cell
                          have pf := B.frozen
                          have pq := Q.cell
                          clear b)
   go_wp2_with fail
   refine (checkFirst_any g H d S (H.n2 - 1) _ B ⟨col, mc⟩ hS hg (SM.fit (MineW.desk ⟨col, mc⟩).sees (by decide) (by decide)) HK.out C2 (fun c hc => (SM.qc c hc).2)).mono ?_
   rintro e w5 ⟨h2, x, q, hq, rfl, B', M', ⟨e2, cap', -⟩, ho⟩
   have hz5 := ho.size
   have hgl := B.lt
   have Kq' := Kq.trans (ho.below (fun b hb => by rcases hb with hb | hb; (· have := (hS2 b hb).2; omega); (· omega)) Kq.size)
   have R' := R.only ho (fun hb => by rcases hb with hb | hb; (· have := (hS2 _ hb).2; omega); (· omega))
   have M2 := M'.wide (T := fun b => b ≠ g ∧ w.heap.size + 3 ≤ b ∧ b < w5.heap.size) (fun b hb => by
    rcases hb with hb | hb
    ·exact ⟨(hS2 b hb).1, (hS2 b hb).2, by have := hS b hb; omega⟩
    ·have := hb.1; exact ⟨by omega, by omega, hb.2⟩)
   clear pb pf pq
   go_wp2_with fail
   go_meet
   exact ⟨by rw [HOK.out], by rw [HOUT.out]; exact ⟨h2, B', M2, cap', R', Kq'⟩⟩
  by_cases k3 : s.kind = 3
  ·have HOUT := Lib.hid (show stepOut d s = { d with known := sortI (d.known ++ [s.number]), queue := d.queue ++ withL d.trouble s.number, trouble := restL d.trouble s.number } by unfold stepOut; rw [if_neg k1, if_neg k2, if_pos k3])
   have HOK0 := Lib.hid (show stepOk d s = (zeroB s.card && !hasI d.known s.number) by unfold stepOk; rw [if_neg k1, if_neg k2, if_pos k3])
   have f1 : (s.kind == 1) = false := beq_eq_false_iff_ne.2 k1
   have f2 : (s.kind == 2) = false := beq_eq_false_iff_ne.2 k2
   have f3 : (s.kind == 3) = true := beq_iff_eq.2 k3
   clear k1 k2 k3
   go_upto_region 11 with fail
   go_cut [7] from 51 to 61 (fun v wr => v = .bool (stepOk d s) ∧ Below w3.heap.size w3 wr)
   case first =>
    cases hz : zeroB s.card
    ·have HOK := Lib.hid (show stepOk d s = false by rw [HOK0.out, hz]; rfl)
     have HZ := Lib.hid hz
     clear hz HOK0
     go_wp2_with (go_at_call 73
                  refine (isZeroCard_any A n c 0 s.card _ X).mono ?_
                  rw [HZ.out]
                  rintro e w4 ⟨rfl, b⟩
                  clear pb pf pq
                  replace B := B.next b
                  replace Q := Q.next b
                  replace R := R.next b
                  replace X := X.next b
                  replace mc := mc.next b
                  replace MQ := MQ.next b
                  replace MR := MR.next b
                  replace Kq := bel_then Kq b
                  replace Kt := bel_then Kt b
                  replace hS := fun x (hx : S x) => Nat.lt_of_lt_of_le (hS x hx) b.size
                  have pb := B.cell
                  have pf := B.frozen
                  have pq := Q.cell
                  clear b)
     go_meet
     exact ⟨by rw [HOK.out], Kt⟩
    cases hh : hasI d.known s.number
    ·have HOK := Lib.hid (show stepOk d s = true by rw [HOK0.out, hz, hh]; rfl)
     have HZ := Lib.hid hz
     have HH := Lib.hid hh
     clear hz hh HOK0
     go_wp2_with (first
      | (go_at_call 73
         refine (isZeroCard_any A n c 0 s.card _ X).mono ?_
         rw [HZ.out]
         rintro e w4 ⟨rfl, b⟩
         clear pb pf pq
         replace B := B.next b
         replace Q := Q.next b
         replace R := R.next b
         replace X := X.next b
         replace mc := mc.next b
         replace MQ := MQ.next b
         replace MR := MR.next b
         replace Kq := bel_then Kq b
         replace Kt := bel_then Kt b
         replace hS := fun x (hx : S x) => Nat.lt_of_lt_of_le (hS x hx) b.size
         have pb := B.cell
         have pf := B.frozen
         have pq := Q.cell
         clear b)
      | (go_at_call 43
         refine (Contains_has H.A1 H.n1 H.c1 d.known s.number _ mc.f1.sees (by omega)).mono ?_
         rw [HH.out]
         rintro e w5 ⟨rfl, qq⟩
         have b := qq.below w4.heap.size
         clear pb pf pq
         replace B := B.next b
         replace Q := Q.next b
         replace R := R.next b
         replace X := X.next b
         replace mc := mc.next b
         replace MQ := MQ.next b
         replace MR := MR.next b
         replace Kq := bel_then Kq b
         replace Kt := bel_then Kt b
         replace hS := fun x (hx : S x) => Nat.lt_of_lt_of_le (hS x hx) b.size
         have pb := B.cell
         have pf := B.frozen
         have pq := Q.cell
         clear b qq))
     go_meet
     exact ⟨by rw [HOK.out], Kt⟩
    ·have HOK := Lib.hid (show stepOk d s = false by rw [HOK0.out, hz, hh]; rfl)
     have HZ := Lib.hid hz
     have HH := Lib.hid hh
     clear hz hh HOK0
     go_wp2_with (first
      | (go_at_call 73
         refine (isZeroCard_any A n c 0 s.card _ X).mono ?_
         rw [HZ.out]
         rintro e w4 ⟨rfl, b⟩
         clear pb pf pq
         replace B := B.next b
         replace Q := Q.next b
         replace R := R.next b
         replace X := X.next b
         replace mc := mc.next b
         replace MQ := MQ.next b
         replace MR := MR.next b
         replace Kq := bel_then Kq b
         replace Kt := bel_then Kt b
         replace hS := fun x (hx : S x) => Nat.lt_of_lt_of_le (hS x hx) b.size
         have pb := B.cell
         have pf := B.frozen
         have pq := Q.cell
         clear b)
      | (go_at_call 43
         refine (Contains_has H.A1 H.n1 H.c1 d.known s.number _ mc.f1.sees (by omega)).mono ?_
         rw [HH.out]
         rintro e w5 ⟨rfl, qq⟩
         have b := qq.below w4.heap.size
         clear pb pf pq
         replace B := B.next b
         replace Q := Q.next b
         replace R := R.next b
         replace X := X.next b
         replace mc := mc.next b
         replace MQ := MQ.next b
         replace MR := MR.next b
         replace Kq := bel_then Kq b
         replace Kt := bel_then Kt b
         replace hS := fun x (hx : S x) => Nat.lt_of_lt_of_le (hS x hx) b.size
         have pb := B.cell
         have pf := B.frozen
         have pq := Q.cell
         clear b qq))
     go_meet
     exact ⟨by rw [HOK.out], Kt⟩
   case rest =>
    obtain ⟨rfl, b⟩ := hcut
    clear pb pf pq
    replace B := B.next b
    replace Q := Q.next b
    replace R := R.next b
    replace X := X.next b
    replace mc := mc.next b
    replace MQ := MQ.next b
    replace MR := MR.next b
    replace Kq := bel_then Kq b
    replace Kt := bel_then Kt b
    replace hS := fun x (hx : S x) => Nat.lt_of_lt_of_le (hS x hx) b.size
    have pb := B.cell
    have pf := B.frozen
    have pq := Q.cell
    clear b
    have HA1 := mc.f1.top
    have U4 : Below wc.heap.size wc (wc.alloc (.cells #[.int .i64 s.number] 3)) := (Below.refl _ _).alloc (Nat.le_refl _) _
    have BA : Blk (wc.alloc (.cells #[.int .i64 s.number] 3)) wc.heap.size 3 [.int .i64 s.number] := Blk.at_ rfl
    have own1 := own_below mc.f1.own U4
    have zA : wc.heap.size + 1 ≤ ((wc.alloc (.cells #[.int .i64 s.number] 3))).heap.size := by simp
    have B4 := B.next U4
    have Q4 := Q.next U4
    have R4 := R.next U4
    have pb4 := B4.cell
    have pf4 := B4.frozen
    have pq4 := Q4.cell
    have hgc := B.lt
    go_upto_region 13 with (at_builtin
                            go_loud (refine wpList_cat rfl _ _ _ rfl Tryz.underlying24 info_int rfl (by decide) rfl own1 rfl (m := 1) (BA.sees (s := 1) (Nat.zero_le _) rfl) rfl (show H.n1 ≤ 1000000000 by omega) (by omega) (by decide) (Nat.zero_le _) ?_)
                            intro A7 c7 w7 o7 h7 b7 q7
                            have B7 := B4.only h7 (fun h => hg (HA1 g h).1)
                            have Q7 := Q4.only h7 (fun h => by have := (hS2 _ (HA1 _ h).1).2; omega)
                            have R7 := R4.only h7 (fun h => by have := (hS2 _ (HA1 _ h).1).2; omega)
                            have p7 := B7.cell
                            have f7 := B7.frozen)
    have hst8 : Only (fun b => b = g) w7 (w7.setCell ⟨g, 1, none⟩ (.slice A7 (H.n1 + 1) c7)) := (Only.refl (fun b => b = g) w7).setCell (p := ⟨g, 1, none⟩) rfl _
    have B8 := B7.set_ 1 (.slice A7 (H.n1 + 1) c7)
    have Q8 := Q7.only hst8 (fun h => by omega)
    have R8 := R7.only hst8 (fun h => by omega)
    have hA7 : ∀ b, OwnB A7 b → Hue S col 1 b ∨ ((wc.alloc (.cells #[.int .i64 s.number] 3))).heap.size ≤ b := fun b hb => (q7 b hb).imp (HA1 b) id
    have hA7g : ∀ b, OwnB A7 b → b = g → False := fun b hb e => by
     rcases hA7 b hb with h | h
     ·exact hg (e ▸ h.1)
     ·omega
    have o8 := own_only o7 hst8 (fun b hb e => hA7g b hb e)
    have p8 := B8.cell
    have f8 := B8.frozen
    have z7 := h7.size
    have z8 := hst8.size
    clear pb pf pq pb4 pf4 pq4 p7 f7 q7
    go_wp2_with fail
    refine (Sort_own 0 3 (H.n1 + 1) c7 A7 (d.known ++ [s.number]) _ (by rw [show ints (d.known ++ [s.number]) = ints d.known ++ [.int .i64 s.number] by simp [ints]]; exact o8) (by omega)).mono ?_
    rintro e w9 ⟨rfl, o9, h9⟩
    have hA7z : ∀ b, OwnB A7 b → w.heap.size + 3 ≤ b ∧ b ≠ g := fun b hb => by
     refine ⟨?_, fun e => hA7g b hb e⟩
     rcases hA7 b hb with h | h
     ·exact (hS2 b h.1).2
     ·have := Kq.size; omega
    have B9 := B8.only h9 (fun h => (hA7z _ h).2 rfl)
    have Q9 := Q8.only h9 (fun h => by have := (hA7z _ h).1; omega)
    have R9 := R8.only h9 (fun h => by have := (hA7z _ h).1; omega)
    have hO : Only (fun b => Hue S col 1 b ∨ b = g ∨ wc.heap.size ≤ b) wc w9 := ((Only.of_below U4).trans (h7.mono (fun b hb => .inl (HA1 b hb)))).trans ((hst8.mono (fun b hb => .inr (.inl hb))).trans (h9.mono (fun b hb => (hA7 b hb).imp id (fun h => .inr (by omega)))))
    have MR9 := MR.only hO (fun b h1 h2 => by
     rcases h2 with h2 | h2 | h2
     ·exact Hue.apart (by decide) b h1 h2
     ·exact hg (h2 ▸ h1.1)
     ·have := hS b h1.1; omega)
    have MQ9 := MQ.only hO (fun b h1 h2 => by
     rcases h2 with h2 | h2 | h2
     ·exact Hue.apart (by decide) b h1 h2
     ·exact hg (h2 ▸ h1.1)
     ·have := hS b h1.1; omega)
    have K9 := Kq.trans (hO.below (fun b hb => by
     rcases hb with h | h | h
     ·have := (hS2 b h.1).2; omega
     ·omega
     ·have := Kq.size; omega) Kq.size)
    have z9 := h9.size
    have HT7 := Lib.hid (fun b (hb : OwnB A7 b) => (own_top o9 hb).2)
    have p9 := B9.cell
    have f9 := B9.frozen
    have pq9 := Q9.cell
    have bq := (Quiet.one w9).below w9.heap.size
    have B10 := B9.next bq
    have Q10 := Q9.next bq
    have R10 := R9.next bq
    have MR10 := MR9.next bq
    have MQ10 := MQ9.next bq
    have o10 := own_below o9 bq
    have K10 := bel_then K9 bq
    have hO10 := hO.trans (Only.of_below bq)
    have z10 := bq.size
    have pb := B10.cell
    have pf := B10.frozen
    have pq := Q10.cell
    have hg10 := B10.lt
    clear p8 f8 o9 bq
    go_wp2_with fail
    refine wp_region_held_drew (S := fun w' => w'.cell? ⟨w.heap.size + 1, 1, none⟩ = some (.int .i64 s.number)) (by kernel_rfl) (by (try dsimp only); first | exact pq 1 | exact qq 1 | exact pq12 1) (fun hH => ?_)
    refine wT (i := 0) (v := ?_) rfl (by kernel_rfl) (by kernel_rfl) (by kernel_rfl) (fun _ _ _ h => h) (Or.inl ⟨by rfl, ?_⟩) (by assumption) ?_
    rotate_left 1
    ·(intro w hSw; (try dsimp only at hSw); go_simp; try with_reducible rfl)
    simp only [Act.put, pX]
    refine wT (i := 2) (v := ?_) rfl (by kernel_rfl) (by kernel_rfl) (by kernel_rfl) (fun _ _ _ h => h) (Or.inl ⟨by rfl, ?_⟩) (by assumption) ?_
    rotate_left 1
    ·(intro w hSw; (try dsimp only at hSw); go_simp; try with_reducible rfl)
    simp only [Act.put, pX]
    refine wT (i := 3) (v := ?_) rfl (by kernel_rfl) (by kernel_rfl) (by kernel_rfl) (fun _ _ _ h => h) (Or.inl ⟨by rfl, ?_⟩) (by assumption) ?_
    rotate_left 1
    ·(intro w hSw; (try dsimp only at hSw); go_simp; try with_reducible rfl)
    simp only [Act.put, pX]
    refine wR (rs := [1, 4]) (by kernel_rfl) (by simp) ?_
    refine aC rfl (fun K hK => ?_) ?_
    ·go_simp
     refine hK.out _ _ (by (try dsimp only); first | exact pq 1 | exact qq 1 | exact pq12 1) (fun hH => ?_)
     clear hK K
     try simp only [Act.put, pX]
     refine wR (rs := [4]) (by kernel_rfl) (by simp) ?_
     refine aC rfl (fun K hK => ?_) aN
     go_simp
     refine (takeTrouble_any g _ _ _ _ H.A4 H.n4 H.c4 rs s.number _ B10 MR10.outer.sees (by omega)).mono ?_
     rintro e w11 ⟨wp, A5, A6, n5, c5, n6, c6, rfl, PT6, Bp, rfl⟩
     have hst4 : Only (fun b => b = g) wp (wp.setCell ⟨g, 4, none⟩ (.slice A6 n6 c6)) := (Only.refl (fun b => b = g) wp).setCell (p := ⟨g, 4, none⟩) rfl _
     have Bt := Bp.set_ 4 (.slice A6 n6 c6)
     have Q11 := (Q10.next PT6.below).only hst4 (fun h => by omega)
     have R11 := (R10.next PT6.below).only hst4 (fun h => by omega)
     have MQ11 := (MQ10.next PT6.below).only hst4 (fun b h1 (h2 : b = g) => hg (h2 ▸ h1.1))
     have o5t := own_only PT6.own5 hst4 (fun b hb (e : b = g) => by have := (own_top PT6.own5 hb).1; omega)
     have o6t := own_only PT6.own6 hst4 (fun b hb (e : b = g) => by have := (own_top PT6.own6 hb).1; omega)
     have o7t := own_only (own_below o10 PT6.below) hst4 (fun b hb (e : b = g) => hA7g b hb e)
     have HT6 := Lib.hid (fun b (hb : OwnB A6 b) => own_top PT6.own6 hb)
     have hn5 : n5 ≤ 1000 := by
      have e1 := Sees.count (Sees.of_own PT6.own5) (by decide) cardSh.len
      have e2 := MR10.outer.sees.count (by decide) cardSh.len
      have e3 := List.length_filter_le (isH s.number) rs
      omega
     have K11 := (bel_then K10 PT6.below).trans (hst4.below (fun b hb => by omega) (bel_then K10 PT6.below).size)
     have z11 := PT6.below.size
     have z12 := hst4.size
     have qp := Bp.cell
     have qf := Bp.frozen
     have qb := Bt.cell
     have qf2 := Bt.frozen
     have qq := Q11.cell
     have qqp := (Q10.next PT6.below).cell
     go_wp2_with fail
     refine hK.out _ _ (by (try dsimp only); first | exact pq 1 | exact qq 1 | exact pq12 1) (fun hH => ?_)
     clear hK K
     refine wR (rs := [5]) (by kernel_rfl) (by simp) ?_
     refine aC rfl (fun K hK => ?_) aN
     refine step_cat rfl _ _ _ (by rfl) Tryz.underlying25 info_impl_Card rfl (by decide) (by rfl) MQ11.outer.own (by rfl) (m := n5) (Sees.of_own o5t) (cards_all _) (show H.n2 ≤ 1000000000 by omega) (by omega) (by decide) (Nat.zero_le _) ?_
     intro A12 c12 w12 o12 h12 b12 q12
     have B12 := Bt.only h12 (fun h => hg (hA2 g h).1)
     have Q12 := Q11.only h12 (fun h => by have := (hS2 _ (hA2 _ h).1).2; omega)
     have R12 := R11.only h12 (fun h => by have := (hS2 _ (hA2 _ h).1).2; omega)
     have K12 := K11.trans (h12.below (fun b hb => by have := (hS2 _ (hA2 _ hb).1).2; omega) K11.size)
     have p12 := B12.cell
     have f12 := B12.frozen
     have pq12 := Q12.cell
     have hst2 : Only (fun b => b = g) w12 (w12.setCell ⟨g, 2, none⟩ (.slice A12 (H.n2 + n5) c12)) := (Only.refl (fun b => b = g) w12).setCell (p := ⟨g, 2, none⟩) rfl _
     have B13 := B12.set_ 2 (.slice A12 (H.n2 + n5) c12)
     have pq13 := (Q12.only hst2 (fun h => by omega)).cell
     refine hK.out _ _ (by (try dsimp only); first | exact pq 1 | exact qq 1 | exact pq12 1) (fun hH => ?_)
     clear hK K
     try simp only [Act.put, pX]
     refine wT (i := 6) (v := ?_) rfl (by kernel_rfl) (by kernel_rfl) (by kernel_rfl) (fun _ _ _ h => h) (Or.inl ⟨by rfl, ?_⟩) (by assumption) ?_
     rotate_left 1
     ·(intro w hSw; (try dsimp only at hSw); go_simp; try with_reducible rfl)
     simp only [Act.put, pX]
     refine wR (rs := [7]) (by kernel_rfl) (by simp) ?_
     refine aC rfl (fun K hK => ?_) aN
     go_simp
     refine hK.out _ _ (by (try dsimp only); exact pq13 1) (fun hH => ?_)
     clear hK K
     try simp only [Act.put, pX]
     refine wD (by kernel_rfl) ?_ _
     have z13 := h12.size
     have z14 := hst2.size
     have hg12 := B12.lt
     have hoF : Only (fun b => Hue S col 1 b ∨ OwnB H.A2 b ∨ b = g ∨ wc.heap.size ≤ b) wc w12 := (hO10.mono (fun b hb => hb.imp id .inr)).trans ((Only.of_below PT6.below).trans ((hst4.mono (fun b hb => .inr (.inr (.inl hb)))).trans (h12.mono (fun b hb => .inr (.inl hb)))))
     have hA2lt : ∀ b, OwnB H.A2 b → b < wc.heap.size := fun b hb => hS b (hA2 b hb).1
     have hA72 : ∀ b, OwnB A7 b → OwnB H.A2 b → False := fun b h1 h2 => by
      rcases hA7 b h1 with h3 | h3
      ·exact Hue.apart (by decide) b h3 (hA2 b h2)
      ·have := hA2lt b h2; omega
     have T := MineCW.register (p := isH s.number) (T1 := OwnB A7) (T6 := OwnB A6) (T7 := OwnB A12) (kn := sortI (d.known ++ [s.number])) (n1 := H.n1 + 1) (c1 := c7) (n7 := H.n2 + n5) (c7 := c12) (n6 := n6) (c6 := c6) mc hS MQ.inners MQ.apart hA2 MR.inners hoF (fun b hb => by
       rcases hb with h | h | h | h
       ·exact .inl h
       ·exact .inr (.inl h)
       ·exact .inr (.inr (fun h2 => hg (h ▸ h2)))
       ·exact .inr (.inr (fun h2 => by have := hS b h2; omega)))
      ⟨own_only o7t h12 (fun b h1 h2 => hA72 b h1 h2), fun b hb => hb⟩ (fun b hb => (hA7 b hb).imp id (fun h => ⟨by omega, by have := HT7.out b hb; omega⟩))
      ⟨by rw [List.flatMap_append]; exact o12, fun b hb => hb⟩ (fun b hb => (q12 b hb).imp id (fun h => ⟨by omega, (own_top o12 hb).2⟩))
      ⟨own_base (own_only o6t h12 (fun b h1 h2 => by have := hA2lt b h2; have := (HT6.out b h1).1; omega)) (Nat.zero_le _), fun b hb => hb⟩ (fun b hb => by have := HT6.out b hb; exact ⟨by omega, by omega⟩)
      (fun b h1 h2 => by
        rcases q12 b h2 with h3 | h3
        ·exact hA72 b h1 h3
        ·have := HT7.out b h1; omega)
      (fun b h1 h2 => by have := HT7.out b h1; have := (HT6.out b h2).1; omega)
      (fun b h1 h2 => by
        rcases q12 b h1 with h3 | h3
        ·have := hA2lt b h3; have := (HT6.out b h2).1; omega
        ·have := (HT6.out b h2).2; omega)
     rw [List.map_append, hrq, with_map, rest_map, hrs] at T
     have T2 := (T.toW.only hst2 (fun b h1 (h2 : b = g) => by
      rcases h1 with h1 | h1
      ·exact hg (h2 ▸ h1)
      ·omega)).wide (T := fun b => b ≠ g ∧ w.heap.size + 3 ≤ b ∧ b < (w12.setCell ⟨g, 2, none⟩ (.slice A12 (H.n2 + n5) c12)).heap.size) (fun b h1 => by
      rcases h1 with h1 | h1
      ·exact ⟨(hS2 b h1).1, (hS2 b h1).2, by have := hS b h1; omega⟩
      ·have := Kq.size; exact ⟨by omega, by omega, by omega⟩)
     have K13 := K12.trans (hst2.below (fun b hb => by omega) K12.size)
     have R13 := R12.only hst2 (fun h => by omega)
     go_wp2_with fail
     go_meet
     exact ⟨rfl, by rw [HOUT.out]; exact ⟨⟨H.A0, H.n0, H.c0, A7, H.n1 + 1, c7, A12, H.n2 + n5, c12, H.A3, H.n3, H.c3, A6, n6, c6⟩, B13, T2, own_cap o12, R13, K13⟩⟩
    refine aC rfl (fun K hK => ?_) aN
    ·go_simp
     refine (takeTrouble_any g _ _ _ _ H.A4 H.n4 H.c4 rs s.number _ B10 MR10.outer.sees (by omega)).mono ?_
     rintro e w11 ⟨wp, A5, A6, n5, c5, n6, c6, rfl, PT6, Bp, rfl⟩
     have hst4 : Only (fun b => b = g) wp (wp.setCell ⟨g, 4, none⟩ (.slice A6 n6 c6)) := (Only.refl (fun b => b = g) wp).setCell (p := ⟨g, 4, none⟩) rfl _
     have Bt := Bp.set_ 4 (.slice A6 n6 c6)
     have Q11 := (Q10.next PT6.below).only hst4 (fun h => by omega)
     have R11 := (R10.next PT6.below).only hst4 (fun h => by omega)
     have MQ11 := (MQ10.next PT6.below).only hst4 (fun b h1 (h2 : b = g) => hg (h2 ▸ h1.1))
     have o5t := own_only PT6.own5 hst4 (fun b hb (e : b = g) => by have := (own_top PT6.own5 hb).1; omega)
     have o6t := own_only PT6.own6 hst4 (fun b hb (e : b = g) => by have := (own_top PT6.own6 hb).1; omega)
     have o7t := own_only (own_below o10 PT6.below) hst4 (fun b hb (e : b = g) => hA7g b hb e)
     have HT6 := Lib.hid (fun b (hb : OwnB A6 b) => own_top PT6.own6 hb)
     have hn5 : n5 ≤ 1000 := by
      have e1 := Sees.count (Sees.of_own PT6.own5) (by decide) cardSh.len
      have e2 := MR10.outer.sees.count (by decide) cardSh.len
      have e3 := List.length_filter_le (isH s.number) rs
      omega
     have K11 := (bel_then K10 PT6.below).trans (hst4.below (fun b hb => by omega) (bel_then K10 PT6.below).size)
     have z11 := PT6.below.size
     have z12 := hst4.size
     have qp := Bp.cell
     have qf := Bp.frozen
     have qb := Bt.cell
     have qf2 := Bt.frozen
     have qq := Q11.cell
     have qqp := (Q10.next PT6.below).cell
     go_wp2_with fail
     refine hK.out _ _ (by (try dsimp only); first | exact pq 1 | exact qq 1 | exact pq12 1) (fun hH => ?_)
     clear hK K
     refine wR (rs := [1]) (by kernel_rfl) (by simp) ?_
     refine aC rfl (fun K hK => ?_) aN
     go_simp
     refine hK.out _ _ (by (try dsimp only); first | exact pq 1 | exact qq 1 | exact pq12 1) (fun hH => ?_)
     clear hK K
     try simp only [Act.put, pX]
     refine wR (rs := [5]) (by kernel_rfl) (by simp) ?_
     refine aC rfl (fun K hK => ?_) aN
     refine step_cat rfl _ _ _ (by rfl) Tryz.underlying25 info_impl_Card rfl (by decide) (by rfl) MQ11.outer.own (by rfl) (m := n5) (Sees.of_own o5t) (cards_all _) (show H.n2 ≤ 1000000000 by omega) (by omega) (by decide) (Nat.zero_le _) ?_
     intro A12 c12 w12 o12 h12 b12 q12
     have B12 := Bt.only h12 (fun h => hg (hA2 g h).1)
     have Q12 := Q11.only h12 (fun h => by have := (hS2 _ (hA2 _ h).1).2; omega)
     have R12 := R11.only h12 (fun h => by have := (hS2 _ (hA2 _ h).1).2; omega)
     have K12 := K11.trans (h12.below (fun b hb => by have := (hS2 _ (hA2 _ hb).1).2; omega) K11.size)
     have p12 := B12.cell
     have f12 := B12.frozen
     have pq12 := Q12.cell
     have hst2 : Only (fun b => b = g) w12 (w12.setCell ⟨g, 2, none⟩ (.slice A12 (H.n2 + n5) c12)) := (Only.refl (fun b => b = g) w12).setCell (p := ⟨g, 2, none⟩) rfl _
     have B13 := B12.set_ 2 (.slice A12 (H.n2 + n5) c12)
     have pq13 := (Q12.only hst2 (fun h => by omega)).cell
     refine hK.out _ _ (by (try dsimp only); first | exact pq 1 | exact qq 1 | exact pq12 1) (fun hH => ?_)
     clear hK K
     try simp only [Act.put, pX]
     refine wT (i := 6) (v := ?_) rfl (by kernel_rfl) (by kernel_rfl) (by kernel_rfl) (fun _ _ _ h => h) (Or.inl ⟨by rfl, ?_⟩) (by assumption) ?_
     rotate_left 1
     ·(intro w hSw; (try dsimp only at hSw); go_simp; try with_reducible rfl)
     simp only [Act.put, pX]
     refine wR (rs := [7]) (by kernel_rfl) (by simp) ?_
     refine aC rfl (fun K hK => ?_) aN
     go_simp
     refine hK.out _ _ (by (try dsimp only); exact pq13 1) (fun hH => ?_)
     clear hK K
     try simp only [Act.put, pX]
     refine wD (by kernel_rfl) ?_ _
     have z13 := h12.size
     have z14 := hst2.size
     have hg12 := B12.lt
     have hoF : Only (fun b => Hue S col 1 b ∨ OwnB H.A2 b ∨ b = g ∨ wc.heap.size ≤ b) wc w12 := (hO10.mono (fun b hb => hb.imp id .inr)).trans ((Only.of_below PT6.below).trans ((hst4.mono (fun b hb => .inr (.inr (.inl hb)))).trans (h12.mono (fun b hb => .inr (.inl hb)))))
     have hA2lt : ∀ b, OwnB H.A2 b → b < wc.heap.size := fun b hb => hS b (hA2 b hb).1
     have hA72 : ∀ b, OwnB A7 b → OwnB H.A2 b → False := fun b h1 h2 => by
      rcases hA7 b h1 with h3 | h3
      ·exact Hue.apart (by decide) b h3 (hA2 b h2)
      ·have := hA2lt b h2; omega
     have T := MineCW.register (p := isH s.number) (T1 := OwnB A7) (T6 := OwnB A6) (T7 := OwnB A12) (kn := sortI (d.known ++ [s.number])) (n1 := H.n1 + 1) (c1 := c7) (n7 := H.n2 + n5) (c7 := c12) (n6 := n6) (c6 := c6) mc hS MQ.inners MQ.apart hA2 MR.inners hoF (fun b hb => by
       rcases hb with h | h | h | h
       ·exact .inl h
       ·exact .inr (.inl h)
       ·exact .inr (.inr (fun h2 => hg (h ▸ h2)))
       ·exact .inr (.inr (fun h2 => by have := hS b h2; omega)))
      ⟨own_only o7t h12 (fun b h1 h2 => hA72 b h1 h2), fun b hb => hb⟩ (fun b hb => (hA7 b hb).imp id (fun h => ⟨by omega, by have := HT7.out b hb; omega⟩))
      ⟨by rw [List.flatMap_append]; exact o12, fun b hb => hb⟩ (fun b hb => (q12 b hb).imp id (fun h => ⟨by omega, (own_top o12 hb).2⟩))
      ⟨own_base (own_only o6t h12 (fun b h1 h2 => by have := hA2lt b h2; have := (HT6.out b h1).1; omega)) (Nat.zero_le _), fun b hb => hb⟩ (fun b hb => by have := HT6.out b hb; exact ⟨by omega, by omega⟩)
      (fun b h1 h2 => by
        rcases q12 b h2 with h3 | h3
        ·exact hA72 b h1 h3
        ·have := HT7.out b h1; omega)
      (fun b h1 h2 => by have := HT7.out b h1; have := (HT6.out b h2).1; omega)
      (fun b h1 h2 => by
        rcases q12 b h1 with h3 | h3
        ·have := hA2lt b h3; have := (HT6.out b h2).1; omega
        ·have := (HT6.out b h2).2; omega)
     rw [List.map_append, hrq, with_map, rest_map, hrs] at T
     have T2 := (T.toW.only hst2 (fun b h1 (h2 : b = g) => by
      rcases h1 with h1 | h1
      ·exact hg (h2 ▸ h1)
      ·omega)).wide (T := fun b => b ≠ g ∧ w.heap.size + 3 ≤ b ∧ b < (w12.setCell ⟨g, 2, none⟩ (.slice A12 (H.n2 + n5) c12)).heap.size) (fun b h1 => by
      rcases h1 with h1 | h1
      ·exact ⟨(hS2 b h1).1, (hS2 b h1).2, by have := hS b h1; omega⟩
      ·have := Kq.size; exact ⟨by omega, by omega, by omega⟩)
     have K13 := K12.trans (hst2.below (fun b hb => by omega) K12.size)
     have R13 := R12.only hst2 (fun h => by omega)
     go_wp2_with fail
     go_meet
     exact ⟨rfl, by rw [HOUT.out]; exact ⟨⟨H.A0, H.n0, H.c0, A7, H.n1 + 1, c7, A12, H.n2 + n5, c12, H.A3, H.n3, H.c3, A6, n6, c6⟩, B13, T2, own_cap o12, R13, K13⟩⟩
  by_cases k4 : s.kind = 4
  ·have HOUT0 := Lib.hid (show stepOut d s = if zeroB s.card then { d with trouble := restL d.trouble s.number } else d by unfold stepOut; rw [if_neg k1, if_neg k2, if_neg k3, if_pos k4])
   have HOK0 := Lib.hid (show stepOk d s = (zeroB s.card && decide (0 < (withL d.trouble s.number).length)) by unfold stepOk; rw [if_neg k1, if_neg k2, if_neg k3, if_pos k4])
   have f1 : (s.kind == 1) = false := beq_eq_false_iff_ne.2 k1
   have f2 : (s.kind == 2) = false := beq_eq_false_iff_ne.2 k2
   have f3 : (s.kind == 3) = false := beq_eq_false_iff_ne.2 k3
   have f4 : (s.kind == 4) = true := beq_iff_eq.2 k4
   clear k1 k2 k3 k4
   cases hz : zeroB s.card
   ·have HOK := Lib.hid (show stepOk d s = false by rw [HOK0.out, hz]; rfl)
    have HOUT := Lib.hid (show stepOut d s = d by rw [HOUT0.out, hz]; rfl)
    have HZ := Lib.hid hz
    clear hz HOK0 HOUT0
    go_wp2_with (go_at_call 73
                 refine (isZeroCard_any A n c 0 s.card _ X).mono ?_
                 rw [HZ.out]
                 rintro e w4 ⟨rfl, b⟩
                 clear pb pf pq
                 replace B := B.next b
                 replace Q := Q.next b
                 replace R := R.next b
                 replace X := X.next b
                 replace mc := mc.next b
                 replace MQ := MQ.next b
                 replace MR := MR.next b
                 replace Kq := bel_then Kq b
                 replace Kt := bel_then Kt b
                 replace hS := fun x (hx : S x) => Nat.lt_of_lt_of_le (hS x hx) b.size
                 have pb := B.cell
                 have pf := B.frozen
                 have pq := Q.cell
                 clear b)
    go_meet
    exact ⟨by rw [HOK.out], by rw [HOUT.out]; exact ⟨H, B, MineW.wide (MineD.toW ⟨col, mc, rsq, hrq, MQ⟩) (fun b hb => ⟨(hS2 b hb).1, (hS2 b hb).2, hS b hb⟩), C2, R, Kq⟩⟩
   have HOK1 := Lib.hid (show stepOk d s = decide (0 < (withL d.trouble s.number).length) by rw [HOK0.out, hz]; rfl)
   have HOUT := Lib.hid (show stepOut d s = { d with trouble := restL d.trouble s.number } by rw [HOUT0.out, hz]; rfl)
   have HZ := Lib.hid hz
   clear hz HOK0 HOUT0
   go_wp2_with (first
    | (go_at_call 73
       refine (isZeroCard_any A n c 0 s.card _ X).mono ?_
       rw [HZ.out]
       rintro e w4 ⟨rfl, b⟩
       clear pb pf pq
       replace B := B.next b
       replace Q := Q.next b
       replace R := R.next b
       replace X := X.next b
       replace mc := mc.next b
       replace MQ := MQ.next b
       replace MR := MR.next b
       replace Kq := bel_then Kq b
       replace Kt := bel_then Kt b
       replace hS := fun x (hx : S x) => Nat.lt_of_lt_of_le (hS x hx) b.size
       have pb := B.cell
       have pf := B.frozen
       have pq := Q.cell
       clear b)
    | (go_at_call 74
       refine (takeTrouble_any g _ _ _ _ H.A4 H.n4 H.c4 rs s.number _ B MR.outer.sees (by omega)).mono ?_
       rintro e w6 ⟨wp, A5, A6, n5, c5, n6, c6, rfl, PT6, Bp, rfl⟩
       have hn5 := Sees.count (Sees.of_own PT6.own5) (by decide) cardSh.len
       have hwl : (withL d.trouble s.number).length = n5 := by rw [← hrs, ← with_map, List.length_map]; exact hn5
       have hgt : decide ((0 : Int) < (n5 : Int)) = decide (0 < (withL d.trouble s.number).length) := by rw [hwl]; simp
       have hgn : decide (0 < n5) = decide (0 < (withL d.trouble s.number).length) := by rw [hwl]
       have hst : Only (fun b => b = g) wp (wp.setCell ⟨g, 4, none⟩ (.slice A6 n6 c6)) := (Only.refl (fun b => b = g) wp).setCell (p := ⟨g, 4, none⟩) rfl _
       have hz5 := PT6.below.size
       have hz7 := hst.size
       have hgl := B.lt
       have T := MineCW.refuse (p := isH s.number) (T6 := OwnB A6) (n6 := n6) (c6 := c6) mc ⟨rsq, hrq, MQ⟩ hS MR.inners (Only.of_below (S := fun _ => False) PT6.below) (fun b hb => hb.elim) ⟨own_base PT6.own6 (Nat.zero_le _), fun b hb => hb⟩ (fun b hb => own_top PT6.own6 hb)
       rw [rest_map, hrs] at T
       have T2 := (T.toW.only hst (fun b h1 (h2 : b = g) => by
        rcases h1 with h1 | h1
        ·exact hg (h2 ▸ h1)
        ·omega)).wide (T := fun b => b ≠ g ∧ w.heap.size + 3 ≤ b ∧ b < (wp.setCell ⟨g, 4, none⟩ (.slice A6 n6 c6)).heap.size) (fun b h1 => by
        rcases h1 with h1 | h1
        ·exact ⟨(hS2 b h1).1, (hS2 b h1).2, by have := hS b h1; omega⟩
        ·exact ⟨by omega, by omega, by omega⟩)
       have K7 := bel_then Kq PT6.below
       have K8 := K7.trans (hst.below (fun b hb => by omega) K7.size)
       have R8 := (R.next PT6.below).only hst (fun h => by omega)
       have B8 := Bp.set_ 4 (.slice A6 n6 c6)
       clear hn5 hwl pb pf pq))
   go_meet
   exact ⟨by rw [HOK1.out], by rw [HOUT.out]; exact ⟨⟨H.A0, H.n0, H.c0, H.A1, H.n1, H.c1, H.A2, H.n2, H.c2, H.A3, H.n3, H.c3, A6, n6, c6⟩, B8, T2, C2, R8, K8⟩⟩
  have HOUT := Lib.hid (show stepOut d s = d by unfold stepOut; rw [if_neg k1, if_neg k2, if_neg k3, if_neg k4])
  have HOK := Lib.hid (show stepOk d s = false by unfold stepOk; rw [if_neg k1, if_neg k2, if_neg k3, if_neg k4])
  have f1 : (s.kind == 1) = false := beq_eq_false_iff_ne.2 k1
  have f2 : (s.kind == 2) = false := beq_eq_false_iff_ne.2 k2
  have f3 : (s.kind == 3) = false := beq_eq_false_iff_ne.2 k3
  have f4 : (s.kind == 4) = false := beq_eq_false_iff_ne.2 k4
  clear k1 k2 k3 k4
  go_wp2_with fail
  go_meet
  exact ⟨by rw [HOK.out], by rw [HOUT.out]; exact ⟨H, B, MineW.wide (MineD.toW ⟨col, mc, rsq, hrq, MQ⟩) (fun b hb => ⟨(hS2 b hb).1, (hS2 b hb).2, hS b hb⟩), C2, R, Kq⟩⟩
 case rest =>
  obtain ⟨rfl, H9, B, M, C9, R, Kq⟩ := hcut
  replace R : Blk wc (w.heap.size + 1 + 1) 28 [.slice none 0 0, .slice none 0 0, .slice none 0 0, .slice none 0 0, .slice none 0 0] := R
  have hgl := B.lt
  have bD0 := (Quiet.one wc).below wc.heap.size
  have BD := B.next bD0
  have RD := R.next bD0
  have MD := M.next bD0
  have KD := bel_then Kq bD0
  have bc0 := BD.cell
  have bcw := B.cell
  have rcw := R.cell
  have rfw := R.frozen
  cases hok : stepOk d s
  ·have HB := Lib.hid (show stepB d s = false by unfold stepB; rw [hok]; rfl)
   have HOK := Lib.hid hok
   clear hok
   have E := ((((((Only.refl (fun b => b = w.heap.size + 1 + 1) wc).setCell (p := ⟨w.heap.size + 1 + 1, 0, none⟩) rfl (.slice H9.A0 H9.n0 H9.c0)).setCell (p := ⟨w.heap.size + 1 + 1, 1, none⟩) rfl (.slice H9.A1 H9.n1 H9.c1)).setCell (p := ⟨w.heap.size + 1 + 1, 2, none⟩) rfl (.slice H9.A2 H9.n2 H9.c2)).setCell (p := ⟨w.heap.size + 1 + 1, 3, none⟩) rfl (.slice H9.A3 H9.n3 H9.c3)).setCell (p := ⟨w.heap.size + 1 + 1, 4, none⟩) rfl (.slice H9.A4 H9.n4 H9.c4))
   have bD := (Quiet.one (((((wc.setCell ⟨w.heap.size + 1 + 1, 0, none⟩ (.slice H9.A0 H9.n0 H9.c0)).setCell ⟨w.heap.size + 1 + 1, 1, none⟩ (.slice H9.A1 H9.n1 H9.c1)).setCell ⟨w.heap.size + 1 + 1, 2, none⟩ (.slice H9.A2 H9.n2 H9.c2)).setCell ⟨w.heap.size + 1 + 1, 3, none⟩ (.slice H9.A3 H9.n3 H9.c3)).setCell ⟨w.heap.size + 1 + 1, 4, none⟩ (.slice H9.A4 H9.n4 H9.c4))).below ((((((wc.setCell ⟨w.heap.size + 1 + 1, 0, none⟩ (.slice H9.A0 H9.n0 H9.c0)).setCell ⟨w.heap.size + 1 + 1, 1, none⟩ (.slice H9.A1 H9.n1 H9.c1)).setCell ⟨w.heap.size + 1 + 1, 2, none⟩ (.slice H9.A2 H9.n2 H9.c2)).setCell ⟨w.heap.size + 1 + 1, 3, none⟩ (.slice H9.A3 H9.n3 H9.c3)).setCell ⟨w.heap.size + 1 + 1, 4, none⟩ (.slice H9.A4 H9.n4 H9.c4))).heap.size
   have bcE := ((B.only E (fun h => by omega)).next bD).cell
   go_wp2_with fail
   refine wp_region_held_drew (S := fun w' => w'.cell? ⟨g, 0, none⟩ = some (.slice H9.A0 H9.n0 H9.c0) ∧ w'.cell? ⟨g, 1, none⟩ = some (.slice H9.A1 H9.n1 H9.c1) ∧ w'.cell? ⟨g, 2, none⟩ = some (.slice H9.A2 H9.n2 H9.c2) ∧ w'.cell? ⟨g, 3, none⟩ = some (.slice H9.A3 H9.n3 H9.c3) ∧ w'.cell? ⟨g, 4, none⟩ = some (.slice H9.A4 H9.n4 H9.c4)) (by kernel_rfl) (by (try dsimp only); exact ⟨bc0 0, bc0 1, bc0 2, bc0 3, bc0 4⟩) (fun hH => ?_)
   refine wT (i := 0) (v := ?_) rfl (by kernel_rfl) (by kernel_rfl) (by kernel_rfl) (fun _ _ _ h => h) (Or.inl ⟨by rfl, ?_⟩) (by assumption) ?_
   rotate_left 1
   ·(intro w hSw; (try dsimp only at hSw); go_simp; try with_reducible rfl)
   simp only [Act.put, pX]
   refine wT (i := 1) (v := ?_) rfl (by kernel_rfl) (by kernel_rfl) (by kernel_rfl) (fun _ _ _ h => h) (Or.inl ⟨by rfl, ?_⟩) (by assumption) ?_
   rotate_left 1
   ·(intro w hSw; (try dsimp only at hSw); go_simp; try with_reducible rfl)
   simp only [Act.put, pX]
   refine wT (i := 2) (v := ?_) rfl (by kernel_rfl) (by kernel_rfl) (by kernel_rfl) (fun _ _ _ h => h) (Or.inl ⟨by rfl, ?_⟩) (by assumption) ?_
   rotate_left 1
   ·(intro w hSw; (try dsimp only at hSw); go_simp; try with_reducible rfl)
   simp only [Act.put, pX]
   refine wT (i := 3) (v := undef) rfl (by kernel_rfl) (by kernel_rfl) (by kernel_rfl) (fun _ _ _ h => h) (Or.inr ⟨by rfl, rfl⟩) (by assumption) ?_
   simp only [Act.put, pX]
   refine wT (i := 4) (v := undef) rfl (by kernel_rfl) (by kernel_rfl) (by kernel_rfl) (fun _ _ _ h => h) (Or.inr ⟨by rfl, rfl⟩) (by assumption) ?_
   simp only [Act.put, pX]
   refine wT (i := 5) (v := ?_) rfl (by kernel_rfl) (by kernel_rfl) (by kernel_rfl) (fun _ _ _ h => h) (Or.inl ⟨by rfl, ?_⟩) (by assumption) ?_
   rotate_left 1
   ·(intro w hSw; (try dsimp only at hSw); go_simp; try with_reducible rfl)
   simp only [Act.put, pX]
   refine wR (rs := [6]) (by kernel_rfl) (by simp) ?_
   refine aC rfl (fun K hK => ?_) aN
   go_simp
   refine hK.out _ _ (by (try dsimp only); exact ⟨bcE 0, bcE 1, bcE 2, bcE 3, bcE 4⟩) (fun hH => ?_)
   clear hK K
   try simp only [Act.put, pX]
   refine wT (i := 7) (v := ?_) rfl (by kernel_rfl) (by kernel_rfl) (by kernel_rfl) (fun _ _ _ h => h) (Or.inl ⟨by rfl, ?_⟩) (by assumption) ?_
   rotate_left 1
   ·(intro w hSw; (try dsimp only at hSw); go_simp; try with_reducible rfl)
   simp only [Act.put, pX]
   refine wD (by kernel_rfl) ?_ _
   go_wp2_with fail
   refine bodyPost_ret (v := .tuple #[.agg #[.slice H9.A0 H9.n0 H9.c0, .slice H9.A1 H9.n1 H9.c1, .slice H9.A2 H9.n2 H9.c2, .slice H9.A3 H9.n3 H9.c3, .slice H9.A4 H9.n4 H9.c4], .bool false]) (by simp [results, Tryz.results34, go_sem, rcw]) rfl ?_
   rw [HB.out]
   have zF := E.size
   have zD := bD.size
   have M4 := (M.only E (fun b h1 h2 => by have := h1.2.1; omega)).next bD
   exact ⟨H9, rfl, M4.wide (fun b hb => by have := hb.2.1; have := hb.2.2; exact ⟨by omega, by omega⟩), C9, bel_then (Kq.trans (E.below (fun k hk => by omega) Kq.size)) bD⟩
  ·have HB := Lib.hid (show stepB d s = deskB (stepOut d s) by unfold stepB; rw [hok]; rfl)
   have F9 := (step_small SM hok).fit M.desk.sees (u := 1048576) (by decide) (by decide)
   have G9 := M.cap3
   have MS := MD.desk.sees
   have HOK := Lib.hid hok
   clear hok
   go_wp2_with fail
   refine wp_region_held_drew (S := fun w' => w'.cell? ⟨g, 0, none⟩ = some (.slice H9.A0 H9.n0 H9.c0) ∧ w'.cell? ⟨g, 1, none⟩ = some (.slice H9.A1 H9.n1 H9.c1) ∧ w'.cell? ⟨g, 2, none⟩ = some (.slice H9.A2 H9.n2 H9.c2) ∧ w'.cell? ⟨g, 3, none⟩ = some (.slice H9.A3 H9.n3 H9.c3) ∧ w'.cell? ⟨g, 4, none⟩ = some (.slice H9.A4 H9.n4 H9.c4)) (by kernel_rfl) (by (try dsimp only); first | exact ⟨bc0 0, bc0 1, bc0 2, bc0 3, bc0 4⟩ | exact ⟨bc5 0, bc5 1, bc5 2, bc5 3, bc5 4⟩) (fun hH => ?_)
   refine wT (i := 0) (v := ?_) rfl (by kernel_rfl) (by kernel_rfl) (by kernel_rfl) (fun _ _ _ h => h) (Or.inl ⟨by rfl, ?_⟩) (by assumption) ?_
   rotate_left 1
   ·(intro w hSw; (try dsimp only at hSw); go_simp; try with_reducible rfl)
   simp only [Act.put, pX]
   refine wT (i := 1) (v := ?_) rfl (by kernel_rfl) (by kernel_rfl) (by kernel_rfl) (fun _ _ _ h => h) (Or.inl ⟨by rfl, ?_⟩) (by assumption) ?_
   rotate_left 1
   ·(intro w hSw; (try dsimp only at hSw); go_simp; try with_reducible rfl)
   simp only [Act.put, pX]
   refine wT (i := 2) (v := ?_) rfl (by kernel_rfl) (by kernel_rfl) (by kernel_rfl) (fun _ _ _ h => h) (Or.inl ⟨by rfl, ?_⟩) (by assumption) ?_
   rotate_left 1
   ·(intro w hSw; (try dsimp only at hSw); go_simp; try with_reducible rfl)
   simp only [Act.put, pX]
   refine wT (i := 3) (v := ?_) rfl (by kernel_rfl) (by kernel_rfl) (by kernel_rfl) (fun _ _ _ h => h) (Or.inl ⟨by rfl, ?_⟩) (by assumption) ?_
   rotate_left 1
   ·(intro w hSw; (try dsimp only at hSw); go_simp; try with_reducible rfl)
   simp only [Act.put, pX]
   refine wR (rs := [4]) (by kernel_rfl) (by simp) ?_
   refine aC rfl (fun K hK => ?_) aN
   go_simp
   refine (IsDesk_any H9 (stepOut d s) _ MS F9 G9).mono ?_
   rintro e w5 ⟨rfl, b⟩
   have B5 := BD.next b
   have R5 := RD.next b
   have M5 := MD.next b
   have K5 := bel_then KD b
   have zd := b.size
   have zd0 := bD0.size
   have bc5 := B5.cell
   have rc5 := R5.cell
   have rf5 := R5.frozen
   have E := ((((((Only.refl (fun b => b = w.heap.size + 1 + 1) w5).setCell (p := ⟨w.heap.size + 1 + 1, 0, none⟩) rfl (.slice H9.A0 H9.n0 H9.c0)).setCell (p := ⟨w.heap.size + 1 + 1, 1, none⟩) rfl (.slice H9.A1 H9.n1 H9.c1)).setCell (p := ⟨w.heap.size + 1 + 1, 2, none⟩) rfl (.slice H9.A2 H9.n2 H9.c2)).setCell (p := ⟨w.heap.size + 1 + 1, 3, none⟩) rfl (.slice H9.A3 H9.n3 H9.c3)).setCell (p := ⟨w.heap.size + 1 + 1, 4, none⟩) rfl (.slice H9.A4 H9.n4 H9.c4))
   have bcE := (B5.only E (fun h => by omega)).cell
   go_wp2_with fail
   refine hK.out _ _ (by (try dsimp only); first | exact ⟨bc0 0, bc0 1, bc0 2, bc0 3, bc0 4⟩ | exact ⟨bc5 0, bc5 1, bc5 2, bc5 3, bc5 4⟩) (fun hH => ?_)
   clear hK K
   refine wT (i := 5) (v := ?_) rfl (by kernel_rfl) (by kernel_rfl) (by kernel_rfl) (fun _ _ _ h => h) (Or.inl ⟨by rfl, ?_⟩) (by assumption) ?_
   rotate_left 1
   ·(intro w hSw; (try dsimp only at hSw); go_simp; try with_reducible rfl)
   simp only [Act.put, pX]
   refine wR (rs := [6]) (by kernel_rfl) (by simp) ?_
   refine aC rfl (fun K hK => ?_) aN
   go_simp
   refine hK.out _ _ (by (try dsimp only); exact ⟨bcE 0, bcE 1, bcE 2, bcE 3, bcE 4⟩) (fun hH => ?_)
   clear hK K
   try simp only [Act.put, pX]
   refine wT (i := 7) (v := ?_) rfl (by kernel_rfl) (by kernel_rfl) (by kernel_rfl) (fun _ _ _ h => h) (Or.inl ⟨by rfl, ?_⟩) (by assumption) ?_
   rotate_left 1
   ·(intro w hSw; (try dsimp only at hSw); go_simp; try with_reducible rfl)
   simp only [Act.put, pX]
   refine wD (by kernel_rfl) ?_ _
   go_wp2_with fail
   refine bodyPost_ret (v := .tuple #[.agg #[.slice H9.A0 H9.n0 H9.c0, .slice H9.A1 H9.n1 H9.c1, .slice H9.A2 H9.n2 H9.c2, .slice H9.A3 H9.n3 H9.c3, .slice H9.A4 H9.n4 H9.c4], .bool (deskB (stepOut d s))]) (by simp [results, Tryz.results34, go_sem, rc5]) rfl ?_
   rw [HB.out]
   have zF := E.size
   have M4 := M5.only E (fun b h1 h2 => by have := h1.2.1; omega)
   exact ⟨H9, rfl, M4.wide (fun b hb => by have := hb.2.1; have := hb.2.2; exact ⟨by omega, by omega⟩), C9, K5.trans (E.below (fun k hk => by omega) K5.size)⟩

end Go.Proofs.YtkimlajfhepfgaaGreat
