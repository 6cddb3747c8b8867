/- Joined texts of this proof: AskB, FoundC. -/
import Derived.Test.YtflpcdffmpfdpaaGreatDoorB09
import Derived.Test.YtflpcdffmpfdpaaGreatDoorB04
import Derived.Test.YtflpcdffmpfdpaaGreatDoorB02
set_option maxRecDepth 100000
set_option maxHeartbeats 8000000
namespace Go.Proofs.YtflpcdffmpfdpaaGreatDoor
open Go.RowKit
structure RunE where
 runner : Int
 started : Bool
 out : Bool
 number : Int
 start : Int
 finish : Int
 punches : List Punch
deriving DecidableEq
def RunE.card (x : RunE) : Card := ⟨x.number, x.start, x.finish, x.punches⟩
def runSh : Sh RunE := ⟨fun r => [.int .i64 r.x.runner, .bool r.x.started, .bool r.x.out, .int .i64 r.x.number, .int .i64 r.x.start, .int .i64 r.x.finish, .slice r.A r.n r.c], 7, 2, fun x => (x.punches.flatMap Punch.enc), by decide, fun _ => rfl⟩
theorem jah : (Tryz.prog.info? 160).map (fun i => (i.zero, i.size, i.bytes)) = some (some (.agg #[.int .i64 0, false, false, .int .i64 0, .int .i64 0, .int .i64 0, .slice none 0 0]), 7, 64) := by kernel_rfl
def jid (i : Nat) (x : Entrant) : RunE := ⟨(i : Int) + 1, x.state != 4, false, x.number, x.start, x.finish, x.punches⟩
def jdu (xs : List Entrant) : List RunE := xs.mapIdx jid
def jeu (r : RaceV) : Option (List RunE) := if ja0 r && r.closed then some (jdu r.field) else none
theorem joe {xs : List Entrant} {k : Nat} (h : k < xs.length) : jdu (xs.take (k + 1)) = jdu (xs.take k) ++ [jid k xs[k]] := by
 unfold jdu
 rw [List.take_succ_eq_append_getElem h, List.mapIdx_concat, List.length_take, Nat.min_eq_left (Nat.le_of_lt h)]
theorem jfy (xs : List Entrant) : (jdu xs).length = xs.length := by simp [jdu]
def SeesC (w : World) (lo : Nat) (A : Option Addr) (n : Nat) (xs : List RunE) : Prop :=
 ∃ rs : List (Hd RunE), rs.map Hd.x = xs ∧ Sees w lo 7 A n (rs.flatMap runSh.enc) ∧ ∀ r ∈ rs, Sees w lo 2 r.A r.n (r.x.punches.flatMap Punch.enc) ∧ r.n ≤ r.c
theorem SeesC.next {w w' : World} {lo n : Nat} {A : Option Addr} {xs : List RunE} (h : SeesC w lo A n xs) (hb : Below w.heap.size w w') : SeesC w' lo A n xs := by
 obtain ⟨rs, h1, h2, h3⟩ := h
 exact ⟨rs, h1, h2.next hb, fun r hr => ⟨(h3 r hr).1.next hb, (h3 r hr).2⟩⟩
theorem SeesC.count {w : World} {lo n : Nat} {A : Option Addr} {xs : List RunE} (h : SeesC w lo A n xs) : xs.length = n := by
 obtain ⟨rs, rfl, h2, _⟩ := h
 rw [List.length_map]
 exact h2.count (enc := runSh.enc) (by decide) (fun _ => rfl)
theorem SeesC.elem {w : World} {lo n k : Nat} {A : Option Addr} {xs : List RunE} (h : SeesC w lo A n xs) (hk : k < n) :
  ∃ (b off : Nat) (B : Option Addr) (m d : Nat), A = some ⟨b, off, none⟩ ∧ ∃ hkx : k < xs.length, (w.cell? ⟨b, off + k * 7, none⟩ = some (.int .i64 xs[k].runner) ∧ w.cell? ⟨b, off + k * 7 + 1, none⟩ = some (.bool xs[k].started) ∧ w.cell? ⟨b, off + k * 7 + 2, none⟩ = some (.bool xs[k].out) ∧ w.cell? ⟨b, off + k * 7 + 3, none⟩ = some (.int .i64 xs[k].number) ∧ w.cell? ⟨b, off + k * 7 + 4, none⟩ = some (.int .i64 xs[k].start) ∧ w.cell? ⟨b, off + k * 7 + 5, none⟩ = some (.int .i64 xs[k].finish) ∧ w.cell? ⟨b, off + k * 7 + 6, none⟩ = some (.slice B m d)) ∧ Sees w lo 2 B m (xs[k].punches.flatMap Punch.enc) ∧ m ≤ d := by
 obtain ⟨rs, rfl, h2, h3⟩ := h
 obtain ⟨b, off, rfl, hkx, hc⟩ := h2.elem (enc := runSh.enc) (by decide) (fun _ => rfl) hk
 have hx : (rs.map Hd.x)[k]'(by simpa using hkx) = rs[k].x := by simp
 refine ⟨b, off, rs[k].A, rs[k].n, rs[k].c, rfl, by simpa using hkx, ⟨?_, ?_, ?_, ?_, ?_, ?_, hc 6 _ rfl⟩, ?_, (h3 rs[k] (List.getElem_mem hkx)).2⟩
 ·rw [hx]; exact hc 0 _ rfl
 ·rw [hx]; exact hc 1 _ rfl
 ·rw [hx]; exact hc 2 _ rfl
 ·rw [hx]; exact hc 3 _ rfl
 ·rw [hx]; exact hc 4 _ rfl
 ·rw [hx]; exact hc 5 _ rfl
 ·rw [hx]; exact (h3 rs[k] (List.getElem_mem hkx)).1
def jeb (w : World) (R : Option (List RunE)) (e : Ending) (w' : World) : Prop :=
 ∃ (A : Option Addr) (c : Nat), e = .returned (.tuple #[.slice A (R.getD []).length c, .bool R.isSome]) ∧ SeesC w' 0 A (R.getD []).length (R.getD []) ∧ (R.getD []).length ≤ c ∧ Below w.heap.size w w'
theorem jho {w : World} {base t s n c : Nat} {A : Option Addr} {cs : List Value} (h : w.ownsRow base t s (.slice A n c) n cs) : n ≤ c := by
 rcases jby h with ⟨_, rfl, rfl, _⟩ | ⟨_, _, _, _, _, _, h1, _, _⟩
 ·exact Nat.le_refl _
 ·exact h1
theorem SeesC.none (w : World) (lo : Nat) (A : Option Addr) : SeesC w lo A 0 [] := ⟨[], rfl, Sees.nil _ _ _ _, by simp⟩
theorem joi (t : Int) (cl : Bool) (A : Option Addr) (n c : Nat) (xs : List Entrant) (w : World) (hx : SeesN entrantSh w 0 A n xs) (hn : n ≤ 1048576) (hi : ∀ x ∈ xs, x.cnt ≤ 1048576) :
  Calls Tryz.prog 139 #[.agg #[t, cl, .slice A n c]] w (jeb w (jeu ⟨t, cl, xs⟩)) := by
 have HLN := Lib.hid hx.count
 have K := nB w (.cells #[t, cl, .slice A n c] 32)
 have P := nP w [t, cl, .slice A n c] 32
 have z0 := nZ w (.cells #[t, cl, .slice A n c] 32)
 go_enter Tryz.func139, Tryz.ntmps139
 go_wp2_with fail
 generalize w.alloc _ = w1 at *
 refine (jdm t cl A n c 0 xs w1 (hx.below K (Nat.le_refl _)) hn hi).mono ?_
 rintro e9 w2 ⟨rfl, b⟩
 replace K := jaa K b
 have zz := b.size
 replace P := P.next b
 clear b
 obtain ⟨ok, hok⟩ : ∃ ok, jbf t cl xs = ok := ⟨_, rfl⟩
 have HOK := Lib.hid hok
 rw [hok]
 clear hok
 have HR0 := Lib.hid (show jeu ⟨t, cl, xs⟩ = if ok && cl then some (jdu xs) else none by unfold jeu ja0; rw [show jbf (⟨t, cl, xs⟩ : RaceV).clock (⟨t, cl, xs⟩ : RaceV).closed (⟨t, cl, xs⟩ : RaceV).field = ok from HOK.out])
 have pc := P.cell
 cases ok
 ·have HR := Lib.hid (show jeu ⟨t, cl, xs⟩ = none from HR0.out)
  go_wp2_with fail
  go_ret2
  rw [HR.out]
  exact ⟨none, 0, rfl, SeesC.none _ _ _, Nat.le_refl _, K⟩
 cases cl
 ·have HR := Lib.hid (show jeu ⟨t, false, xs⟩ = none from HR0.out)
  go_wp2_with fail
  go_ret2
  rw [HR.out]
  exact ⟨none, 0, rfl, SeesC.none _ _ _, Nat.le_refl _, K⟩
 have HR := Lib.hid (show jeu ⟨t, true, xs⟩ = some (jdu xs) from HR0.out)
 obtain ⟨-, -, hn1, hn8, -⟩ := jam HOK.out
 have hln : xs.length ≤ n := by rw [HLN.out]; exact Nat.le_refl _
 have hln2 : n ≤ xs.length := by rw [HLN.out]; exact Nat.le_refl _
 have own0 := ja4 w2 160 7
 have U := nB w2 (.cells #[] 160)
 have zlt : w.heap.size < w2.heap.size := P.lt
 have zu := nZ w2 (.cells #[] 160)
 replace K := jaa K U
 clear U
 go_wp2_with fail
 clear pc P
 generalize w2.alloc _ = w3 at *
 refine (jfp t true A n c xs w3 (hx.below K (Nat.le_refl _)) hn hi).mono ?_
 rintro e9 w4 ⟨A1, c1, rfl, M1, b⟩
 replace M1 := M1.at (show xs.length = n from HLN.out)
 rw [show (⟨t, true, xs⟩ : RaceV).field.length = n from HLN.out]
 obtain ⟨rq, hrq, MR⟩ := M1
 obtain ⟨lo, hlo⟩ : ∃ lo, w3.heap.size = lo := ⟨_, rfl⟩
 obtain ⟨hz, hhz⟩ : ∃ hz, w4.heap.size = hz := ⟨_, rfl⟩
 rw [hlo, hhz] at MR
 have zlo : w2.heap.size + 1 ≤ lo := by omega
 have zhz : hz ≤ w4.heap.size := by omega
 have own1 := jad own0 b
 replace K := jaa K b
 have zz4 := b.size
 have zlh : lo ≤ hz := by omega
 have hap : ∀ b, jaj (some ⟨w2.heap.size, 0, none⟩) b → b < lo ∨ hz ≤ b := fun b hb => by
  have h : w2.heap.size = b := by simpa [jaj, Value.ownBlock] using hb
  omega
 clear b own0 hlo hhz
 have hfd : ∀ w : World, (Instr.field 32 (.agg #[t, true, .slice A1 n c1]) 2).run Tryz.prog w = .ok (.slice A1 n c1) w := fun _ => by kernel_rfl
 go_wp2_with fail
 clear hfd
 go_loopw [4, 20] (fun ov iv wr => ∃ (k : Nat) (A' : Option Addr) (c' : Nat), k ≤ n ∧ iv = .int .i64 (k : Int) ∧ ov = .slice A' k c' ∧ wr.ownsRow w2.heap.size 160 7 (.slice A' k c') k (((rq.take k).mapIdx fun i h => (⟨jid i h.x, h.A, h.n, h.c⟩ : Hd RunE)).flatMap runSh.enc) ∧ MineR entrantSh wr (In lo hz) 108 188 A1 n c1 rq ∧ (∀ b, jaj A' b → b < lo ∨ hz ≤ b) ∧ hz ≤ wr.heap.size ∧ Below w.heap.size w wr) (fun _ iv _ => n - (intOf iv).toNat)
 case atStart => exact ⟨0, _, _, Nat.zero_le _, rfl, rfl, own1, MR, hap, zhz, K⟩
 case round =>
  clear own1 MR hap zhz K
  obtain ⟨k, A', c', hk, rfl, rfl, own1, MR, hap, zhz, K⟩ := hrel
  by_cases hlt : k < n
  ·obtain ⟨ga, cur, x, B0, mc, cc0, rfl, hga, C, ⟨hkr, hri⟩, hlc0, hc0, hc1, hc2, hc3, hc4⟩ := MR.ent hlt
   have x0 := (C.cell (k * 5)).trans hc0
   have x1 := (C.cell (k * 5 + 1)).trans hc1
   have x2 := (C.cell (k * 5 + 2)).trans hc2
   have x3 := (C.cell (k * 5 + 3)).trans hc3
   have x4 := (C.cell (k * 5 + 4)).trans hc4
   have U := nB wr (.cells #[x.state, x.number, x.start, x.finish, .slice B0 mc cc0] 108)
   have zu2 := U.size
   have hlti : (k : Int) < (n : Int) := by omega
   have HN := Lib.hid (show ((rq.take (k + 1)).mapIdx fun i h => (⟨jid i h.x, h.A, h.n, h.c⟩ : Hd RunE)) = ((rq.take k).mapIdx fun i h => (⟨jid i h.x, h.A, h.n, h.c⟩ : Hd RunE)) ++ [⟨jid k x, B0, mc, cc0⟩] by
    rw [List.take_succ_eq_append_getElem hkr, List.mapIdx_concat, List.length_take, Nat.min_eq_left (Nat.le_of_lt hkr), hri])
   have own2 := jad own1 U
   have MR2 := MR.next U
   have K2 := K.trans (U.mono K.size)
   clear U own1 C
   have zk : w2.heap.size ≤ wr.heap.size := by omega
   go_wp2_with (at_builtin; go_loud (refine jac rfl _ _ _ rfl Tryz.underlying115 jah rfl (by decide) rfl own2 rfl (by simp) (by rfl) (by rfl) (by omega) (by decide) (by simp; omega) ?_); intro A9 c9 w9 o9 h9 b9 q9)
   have z9 := h9.size
   go_roundw
   case rel => exact ⟨k + 1, A9, c9, by omega, by go_num, rfl, by rw [HN.out, List.flatMap_append]; exact o9, MR2.only h9 (fun b h1 h2 => by have h3 := hap b h2; have := h1.1; have := h1.2; omega), (fun b hb => (q9 b hb).elim (hap b) (fun h => .inr (by omega))), by omega, K2.trans (b9.mono (by omega))⟩
   case measure => simp [intOf]; omega
  ·obtain rfl : k = n := by omega
   have hlti : ¬ (k : Int) < (k : Int) := by omega
   have hrl : rq.length = k := MR.count
   go_wp2_with fail
   go_ret2
   rw [HR.out]
   have HL2 : (jdu xs).length = k := by rw [jfy]; exact HLN.out
   unfold jeb
   rw [show (some (jdu xs)).getD [] = jdu xs from rfl, HL2]
   rw [List.take_of_length_le (Nat.le_of_eq hrl)] at own1
   refine ⟨A', c', rfl, ⟨_, ?_, (Sees.of_own own1).less (Nat.zero_le _), fun r hr => ?_⟩, jho own1, K⟩
   ·rw [← hrq]
    exact List.ext_getElem (by simp [jdu]) fun i h1 h2 => by simp [jdu]
   ·obtain ⟨i, hi2, rfl⟩ := List.getElem_of_mem hr
    have hi3 : i < rq.length := by simpa using hi2
    rw [List.getElem_mapIdx]
    exact ⟨(MR.inners.each rq[i] (List.getElem_mem hi3)).sees, jho (MR.inners.each rq[i] (List.getElem_mem hi3)).own⟩
theorem jje (t : Int) (cl : Bool) (A : Option Addr) (n c : Nat) (xs : List Entrant) (w : World) (hx : SeesN entrantSh w 0 A n xs) (hn : n ≤ 1048576) (hi : ∀ x ∈ xs, x.cnt ≤ 1048576) :
  Calls Tryz.prog 83 #[.agg #[t, cl, .slice A n c]] w (jeb w (jeu ⟨t, cl, xs⟩)) := by
 have HLN := Lib.hid hx.count
 have W2 : True := trivial
 clear W2
 have K := nB2 w (.cells #[t, cl, .slice A n c] 32) (.cells #[] 160)
 have P := nPa w [t, cl, .slice A n c] 32 (.cells #[] 160)
 have own0 := ja5 (w := (w.alloc (.cells #[t, cl, .slice A n c] 32))) (g := w.heap.size + 1) 160 7 (by simp)
 have z0 := nZ2 w (.cells #[t, cl, .slice A n c] 32) (.cells #[] 160)
 go_enter Tryz.func83, Tryz.ntmps83
 go_wp2_with fail
 generalize (w.alloc _).alloc _ = w1 at *
 refine (jcy t cl A n c 0 xs w1 (hx.below K (Nat.le_refl _)) hn hi).mono ?_
 rintro e9 w2 ⟨rfl, b⟩
 replace K := jaa K b
 have zz := b.size
 replace P := P.next b
 replace own0 := jad own0 b
 clear b
 obtain ⟨ok, hok⟩ : ∃ ok, jbf t cl xs = ok := ⟨_, rfl⟩
 have HOK := Lib.hid hok
 rw [hok]
 clear hok
 have HR0 := Lib.hid (show jeu ⟨t, cl, xs⟩ = if ok && cl then some (jdu xs) else none by unfold jeu ja0; rw [show jbf (⟨t, cl, xs⟩ : RaceV).clock (⟨t, cl, xs⟩ : RaceV).closed (⟨t, cl, xs⟩ : RaceV).field = ok from HOK.out])
 have pc := P.cell
 cases ok
 ·have HR := Lib.hid (show jeu ⟨t, cl, xs⟩ = none from HR0.out)
  go_wp2_with fail
  go_ret2
  rw [HR.out]
  exact ⟨_, 0, rfl, SeesC.none _ _ _, Nat.le_refl _, K⟩
 cases cl
 ·have HR := Lib.hid (show jeu ⟨t, false, xs⟩ = none from HR0.out)
  go_wp2_with fail
  go_ret2
  rw [HR.out]
  exact ⟨_, 0, rfl, SeesC.none _ _ _, Nat.le_refl _, K⟩
 have HR := Lib.hid (show jeu ⟨t, true, xs⟩ = some (jdu xs) from HR0.out)
 obtain ⟨-, -, hn1, hn8, -⟩ := jam HOK.out
 have hln : xs.length ≤ n := by rw [HLN.out]; exact Nat.le_refl _
 have hln2 : n ≤ xs.length := by rw [HLN.out]; exact Nat.le_refl _
 have z2 : w.heap.size + 2 ≤ w2.heap.size := by omega
 clear HR0
 go_wp2_with fail
 clear pc
 go_loopw [4, 5] (fun ov iv wr => ∃ (k : Nat) (rs : List (Hd RunE)) (A' : Option Addr) (c' : Nat), k ≤ n ∧ iv = .int .i64 (k : Int) ∧ ov = .slice A' k c' ∧ Blk wr w.heap.size 32 [.int .i64 t, .bool true, .slice A n c] ∧ wr.ownsRow (w.heap.size + 1) 160 7 (.slice A' k c') k (rs.flatMap runSh.enc) ∧ Hid (rs.map Hd.x = jdu (xs.take k)) ∧ Inners runSh wr (In (w.heap.size + 2) wr.heap.size) 188 rs ∧ (∀ r ∈ rs, ∀ b, jaj r.A b → ¬ jaj A' b) ∧ w.heap.size + 2 ≤ wr.heap.size ∧ Below w.heap.size w wr) (fun _ iv _ => n - (intOf iv).toNat)
 case atStart => exact ⟨0, [], _, _, Nat.zero_le _, rfl, rfl, P, own0, Lib.hid rfl, Inners.nil _, by simp, z2, K⟩
 case round =>
  clear P own0 z2 K
  obtain ⟨k, rs, A', c', hk, rfl, rfl, P, hown, HR1, hin, hap, zr, K⟩ := hrel
  by_cases hlt : k < n
  ·obtain ⟨b, off, B0, mc, cc0, rfl, hkx, y0, y1, y2, y3, y4, hxi⟩ := SeesEntrant.elem hx hlt
   have hmb : mc ≤ 1048576 := by
    have h1 := hi xs[k] (List.getElem_mem hkx)
    have hmc := hxi.count (by decide) (fun _ => rfl)
    unfold Entrant.cnt at h1
    omega
   obtain ⟨x, HX⟩ : ∃ x, Hid (xs[k] = x) := ⟨_, Lib.hid rfl⟩
   rw [HX.out] at y0 y1 y2 y3 hxi
   have hbw : b < w.heap.size := World.block_lt_of_cell? w _ y0
   have hlti : (k : Int) < (n : Int) := by omega
   have x0 := (K.cell (p := ⟨b, off + k * 5, none⟩) hbw).trans y0
   have x1 := (K.cell (p := ⟨b, off + k * 5 + 1, none⟩) hbw).trans y1
   have x2 := (K.cell (p := ⟨b, off + k * 5 + 2, none⟩) hbw).trans y2
   have x3 := (K.cell (p := ⟨b, off + k * 5 + 3, none⟩) hbw).trans y3
   have x4 := (K.cell (p := ⟨b, off + k * 5 + 4, none⟩) hbw).trans y4
   clear y0 y1 y2 y3 y4
   have pc := P.cell
   have U := nB wr (.cells #[x.state, x.number, x.start, x.finish, .slice B0 mc cc0] 108)
   have E1 := nP wr [x.state, x.number, x.start, x.finish, .slice B0 mc cc0] 108
   have P1 := P.next U
   have own1 := jad hown U
   have hin1 := hin.next U
   have D1 := U
   have K1 := K.trans (U.mono K.size)
   have zK1 := K1.size
   clear U
   obtain ⟨s4, hs4⟩ : ∃ s4, (x.state != 4) = s4 := ⟨_, rfl⟩
   have HS4 := Lib.hid hs4
   go_upto_region 8 with fail
   clear pc x0 x1 x2 x3 x4
   generalize wr.alloc _ = w1 at *
   obtain ⟨ge, hge⟩ : ∃ ge, wr.heap.size = ge := ⟨_, rfl⟩
   have zg1 : ge ≤ wr.heap.size := by omega
   have zg2 : wr.heap.size ≤ ge := by omega
   rw [hge] at E1 ⊢
   clear hge
   have b2 := (Quiet.one w1).below w1.heap.size
   have P2 := P1.next b2
   have E2 := E1.next b2
   have D2 := jaa D1 b2
   have K2 := K1.trans (b2.mono zK1)
   have X2 : Sees w1.drew 0 2 B0 mc (x.card.punches.flatMap Punch.enc) := hxi.below K2 (Nat.le_refl _)
   have own2 := jad own1 b2
   have hin2 := hin1.next b2
   have zK2 := K2.size
   have zD2 := D2.size
   have pk2 : w1.drew.cell? ⟨ge, 0, none⟩ = some (.int .i64 x.state) ∧ w1.drew.cell? ⟨ge, 1, none⟩ = some (.int .i64 x.number) ∧ w1.drew.cell? ⟨ge, 2, none⟩ = some (.int .i64 x.start) ∧ w1.drew.cell? ⟨ge, 3, none⟩ = some (.int .i64 x.finish) ∧ w1.drew.cell? ⟨ge, 4, none⟩ = some (.slice B0 mc cc0) := ⟨E2.cell 0, E2.cell 1, E2.cell 2, E2.cell 3, E2.cell 4⟩
   have hkw : IntKind.i64.wrap ((k : Int) + 1) = (k : Int) + 1 := IntWalk.i64_in _ (by omega)
   refine wp_region_held_drew (S := fun w' => w'.cell? ⟨ge, 0, none⟩ = some (.int .i64 x.state) ∧ w'.cell? ⟨ge, 1, none⟩ = some (.int .i64 x.number) ∧ w'.cell? ⟨ge, 2, none⟩ = some (.int .i64 x.start) ∧ w'.cell? ⟨ge, 3, none⟩ = some (.int .i64 x.finish) ∧ w'.cell? ⟨ge, 4, none⟩ = some (.slice B0 mc cc0)) (by kernel_rfl) (by (try dsimp only); first | exact pk2 | exact pk5 | exact pk6 | exact pk7) (fun hH => ?_)
   refine wQ 0 ?_
   refine wQ 1 ?_
   refine wQ 2 ?_
   refine wQ 3 ?_
   refine wQ 4 ?_
   refine wQ 5 ?_
   refine wQ 6 ?_
   refine wQ 7 ?_
   refine wR (rs := [8]) (by kernel_rfl) (by simp) ?_
   refine aC rfl (fun K hK => ?_) aN
   go_simp
   clear hkw
   refine (jgu B0 mc cc0 0 x.card _ X2 hmb).mono ?_
   rintro e w5 ⟨An, cn, rfl, on, b5⟩
   have WX := nB w5 (.cells #[.int .i64 ((k : Int) + 1), s4, false, x.card.number, x.card.start, x.card.finish, .slice An mc cn] 160)
   have BA := nP w5 [.int .i64 ((k : Int) + 1), s4, false, x.card.number, x.card.start, x.card.finish, .slice An mc cn] 160
   have zw5 := nZ w5 (.cells #[.int .i64 ((k : Int) + 1), s4, false, x.card.number, x.card.start, x.card.finish, .slice An mc cn] 160)
   have z5 := b5.size
   have E5 := E2.next b5
   have E6 := E5.next WX
   have P5 := (P2.next b5).next WX
   have K5 := K2.trans (b5.mono zK2)
   have K6 := K5.trans (WX.mono (Nat.le_trans zK2 b5.size))
   have own5 := jad own2 b5
   have own6 := jad own5 WX
   have hin5 := hin2.next b5
   have pk5 : w5.cell? ⟨ge, 0, none⟩ = some (.int .i64 x.state) ∧ w5.cell? ⟨ge, 1, none⟩ = some (.int .i64 x.number) ∧ w5.cell? ⟨ge, 2, none⟩ = some (.int .i64 x.start) ∧ w5.cell? ⟨ge, 3, none⟩ = some (.int .i64 x.finish) ∧ w5.cell? ⟨ge, 4, none⟩ = some (.slice B0 mc cc0) := ⟨E5.cell 0, E5.cell 1, E5.cell 2, E5.cell 3, E5.cell 4⟩
   have pk6 : (w5.alloc (.cells #[.int .i64 ((k : Int) + 1), s4, false, x.card.number, x.card.start, x.card.finish, .slice An mc cn] 160)).cell? ⟨ge, 0, none⟩ = some (.int .i64 x.state) ∧ (w5.alloc (.cells #[.int .i64 ((k : Int) + 1), s4, false, x.card.number, x.card.start, x.card.finish, .slice An mc cn] 160)).cell? ⟨ge, 1, none⟩ = some (.int .i64 x.number) ∧ (w5.alloc (.cells #[.int .i64 ((k : Int) + 1), s4, false, x.card.number, x.card.start, x.card.finish, .slice An mc cn] 160)).cell? ⟨ge, 2, none⟩ = some (.int .i64 x.start) ∧ (w5.alloc (.cells #[.int .i64 ((k : Int) + 1), s4, false, x.card.number, x.card.start, x.card.finish, .slice An mc cn] 160)).cell? ⟨ge, 3, none⟩ = some (.int .i64 x.finish) ∧ (w5.alloc (.cells #[.int .i64 ((k : Int) + 1), s4, false, x.card.number, x.card.start, x.card.finish, .slice An mc cn] 160)).cell? ⟨ge, 4, none⟩ = some (.slice B0 mc cc0) := ⟨E6.cell 0, E6.cell 1, E6.cell 2, E6.cell 3, E6.cell 4⟩
   go_wp2_with fail
   refine hK.out _ _ (by (try dsimp only); first | exact pk2 | exact pk5 | exact pk6 | exact pk7) (fun hH => ?_)
   clear hK K
   refine wQ 9 ?_
   refine wR (rs := [10]) (by kernel_rfl) (by simp) ?_
   refine aC rfl (fun K hK => ?_) aN
   go_simp
   refine hK.out _ _ (by (try dsimp only); first | exact pk2 | exact pk5 | exact pk6 | exact pk7) (fun hH => ?_)
   clear hK K
   try simp only [Act.put, pX]
   refine wR (rs := [11]) (by kernel_rfl) (by simp) ?_
   refine aC rfl (fun K hK => ?_) aN
   refine jas rfl _ _ _ (by rfl) Tryz.underlying115 jah rfl (by decide) (by rfl) own6 (by rfl) (m := 1) (BA.sees (s := 7) (Nat.zero_le _) rfl) (by rfl) (show k ≤ 1000000000 by omega) (by omega) (by decide) (by omega) ?_
   intro A7 c7 w7 o7 h7 b7 q7
   have E7 := E6.only h7 (fun h => by have := (jai hown h).2; omega)
   have P7 := P5.only h7 (fun h => by have := (jai own6 h).1; omega)
   have K7 := K6.trans (b7.mono (by omega))
   have pk7 : w7.cell? ⟨ge, 0, none⟩ = some (.int .i64 x.state) ∧ w7.cell? ⟨ge, 1, none⟩ = some (.int .i64 x.number) ∧ w7.cell? ⟨ge, 2, none⟩ = some (.int .i64 x.start) ∧ w7.cell? ⟨ge, 3, none⟩ = some (.int .i64 x.finish) ∧ w7.cell? ⟨ge, 4, none⟩ = some (.slice B0 mc cc0) := ⟨E7.cell 0, E7.cell 1, E7.cell 2, E7.cell 3, E7.cell 4⟩
   refine hK.out _ _ (by (try dsimp only); first | exact pk2 | exact pk5 | exact pk6 | exact pk7) (fun hH => ?_)
   clear hK K
   try simp only [Act.put, pX]
   refine wQ 12 ?_
   refine wD (by kernel_rfl) ?_ _
   have z7 := h7.size
   have hs := jdr (sh := runSh) (x := jid k x) (B1 := An) (d := cn) (D := fun _ => False) hin5 hap (fun b hb => (jai hown hb).2) on (fun b hb => hb.elim) zD2 (Only.of_below WX) h7 q7 (show w.heap.size + 2 ≤ wr.heap.size by exact zr) (by omega)
   have HN := Lib.hid (show (rs ++ [(⟨jid k x, An, mc, cn⟩ : Hd RunE)]).map Hd.x = jdu (xs.take (k + 1)) by rw [List.map_append, HR1.out, joe hkx, HX.out]; rfl)
   have o8 : w7.ownsRow (w.heap.size + 1) 160 7 (.slice A7 (k + 1) c7) (k + 1) ((rs ++ [(⟨jid k x, An, mc, cn⟩ : Hd RunE)]).flatMap runSh.enc) := by
    rw [List.flatMap_append]
    have h := o7
    rw [← HS4.out] at h
    exact h
   have zfin : w.heap.size + 2 ≤ w7.heap.size := by omega
   go_wp2_with fail
   go_roundw
   case rel => exact ⟨k + 1, rs ++ [⟨jid k x, An, mc, cn⟩], A7, c7, by omega, by go_num, rfl, P7, o8, HN, hs.1, hs.2, zfin, K7⟩
   case measure => simp [intOf]; omega
  ·obtain rfl : k = n := by omega
   have hlti : ¬ (k : Int) < (k : Int) := by omega
   have pc := P.cell
   have HE := Lib.hid (show rs.map Hd.x = jdu xs by rw [HR1.out, List.take_of_length_le (by omega)])
   go_wp2_with fail
   go_ret2
   rw [HR.out]
   have HL2 : (jdu xs).length = k := by rw [jfy]; exact HLN.out
   unfold jeb
   rw [show (some (jdu xs)).getD [] = jdu xs from rfl, HL2]
   exact ⟨A', c', rfl, ⟨rs, HE.out, (Sees.of_own hown).less (Nat.zero_le _), fun r hr => ⟨(hin.each r hr).sees, jho (hin.each r hr).own⟩⟩, jho hown, K⟩
def jj6 (v : Int) (p : Punch) : Bool := decide (p.code = v)
def jkb : List Punch → Int → Nat → Int
 | [], _, _ => -1
 | p :: l, c, j => if jj6 c p then (j : Int) else jkb l c (j + 1)
theorem jk7 {c : Int} : ∀ (l : List Punch) (j : Nat), l.any (jj6 c) = false → jkb l c j = -1
 | [], _, _ => rfl
 | p :: l, j, h => by
  simp only [List.any_cons, Bool.or_eq_false_iff] at h
  simp only [jkb, h.1, Bool.false_eq_true, if_false]
  exact jk7 l (j + 1) h.2
theorem jo0 {c : Int} : ∀ (l : List Punch) (j k : Nat) (hk : k < l.length), jj6 c l[k] = true → (l.take k).any (jj6 c) = false → jkb l c j = ((j + k : Nat) : Int)
 | [], _, _, hk, _, _ => absurd hk (by simp)
 | p :: l, j, 0, _, h, _ => by
  simp only [List.getElem_cons_zero] at h
  simp only [jkb, h, if_true, Nat.add_zero]
 | p :: l, j, k + 1, hk, h, hb => by
  simp only [List.take_succ_cons, List.any_cons, Bool.or_eq_false_iff] at hb
  simp only [jkb, hb.1, Bool.false_eq_true, if_false]
  rw [jo0 l (j + 1) k (by simpa using hk) (by simpa using h) hb.2]
  congr 1
  omega
def jne (ps : List Punch) (st : List Int × Nat) (c : Int) : List Int × Nat :=
 if jkb (ps.drop st.2) c st.2 < 0 then (st.1 ++ [-1], st.2) else (st.1 ++ [jkb (ps.drop st.2) c st.2], (jkb (ps.drop st.2) c st.2).toNat + 1)
def fTo (ps : List Punch) (cs : List Int) (k : Nat) : List Int × Nat := (cs.take k).foldl (jne ps) ([], 0)
def jdb (ps : List Punch) (cs : List Int) : List Int := (fTo ps cs cs.length).1
theorem jdl (ps : List Punch) (cs : List Int) {k : Nat} (hk : k < cs.length) : fTo ps cs (k + 1) = jne ps (fTo ps cs k) cs[k] := by
 unfold fTo
 rw [List.take_succ_eq_append_getElem hk, List.foldl_append]
 rfl
theorem je7 {ps : List Punch} {out : List Int} {nx : Nat} {c : Int} (h : (ps.drop nx).any (jj6 c) = false) : jne ps (out, nx) c = (out ++ [-1], nx) := by
 unfold jne
 rw [jk7 _ _ h, if_pos (by decide)]
theorem jl9 {ps : List Punch} {out : List Int} {nx k : Nat} {c : Int} (hk : k < (ps.drop nx).length) (h : jj6 c (ps.drop nx)[k] = true) (hb : ((ps.drop nx).take k).any (jj6 c) = false) : jne ps (out, nx) c = (out ++ [((nx + k : Nat) : Int)], nx + k + 1) := by
 unfold jne
 rw [jo0 _ _ k hk h hb, if_neg (by omega)]
 simp only [Int.toNat_natCast]
theorem SeesAt.drop {α : Type} {enc : α → List Value} {w : World} {lo s n b off : Nat} {xs : List α} (h : Sees w lo s (some ⟨b, off, none⟩) n (xs.flatMap enc)) (hs : 0 < s) (henc : ∀ x, (enc x).length = s) (k : Nat) (hk : k ≤ n) : Sees w lo s (some ⟨b, off + k * s, none⟩) (n - k) ((xs.drop k).flatMap enc) := by
 have hl := h.count hs henc
 refine ⟨by rw [jak _ (fun x _ => henc x), List.length_drop, hl], fun h0 => ?_⟩
 obtain ⟨b', off', e, h1, h2, h3⟩ := h.at' (by omega)
 obtain ⟨rfl, rfl⟩ : b = b' ∧ off = off' := by simpa using e
 refine ⟨b, off + k * s, rfl, h1, h2, fun j u hu => ?_⟩
 have hj : j < (n - k) * s := by
  have := (List.getElem?_eq_some_iff.1 hu).1
  rwa [jak _ (fun x _ => henc x), List.length_drop, hl] at this
 have h4 := h3 (k * s + j) u (by
  have e1 : xs.flatMap enc = (xs.take k).flatMap enc ++ (xs.drop k).flatMap enc := by rw [← List.flatMap_append, List.take_append_drop]
  rw [e1, List.getElem?_append_right (by rw [jak _ (fun x _ => henc x), List.length_take]; have : min k xs.length = k := by omega
                                         rw [this]; omega), jak _ (fun x _ => henc x), List.length_take, show min k xs.length = k by omega, Nat.add_sub_cancel_left, hu])
 rwa [← Nat.add_assoc] at h4
theorem jlw (p : Punch) (v : Int) (B : Nat) (w : World) (h1 : w.cell? ⟨B, 0, none⟩ = some (.int .i64 v)) (hB : B < w.heap.size) :
  Calls Tryz.prog 252 #[.agg #[p.code, p.time], .pointer (some ⟨B, 0, none⟩)] w fun e w' => e = .returned (.bool (jj6 v p)) ∧ Below w.heap.size w w' := by
 have K0 := nB w (.cells #[p.code, p.time] 188)
 have HE := Lib.hid (show jj6 v p = (p.code == v) by rw [jj6, Bool.eq_iff_iff]; simp)
 go_enter Tryz.func252, Tryz.ntmps252
 go_wp2_with fail
 go_ret
 exact ⟨jab HE.out.symm, K0⟩
theorem jg7 (ps : List Punch) (v : Int) (B : Nat) (w : World) (h1 : Blk w B 3 [.int .i64 v]) :
  Answers 252 #[.pointer (some ⟨B, 0, none⟩)] (fun x : Punch => .agg x.enc.toArray) (jj6 v) ps w :=
 ⟨enters_of Tryz.func252 (by kernel_rfl) rfl, fun i hi W hb => jlw ps[i] v B W ((h1.next hb).cell 0) (h1.next hb).lt⟩
theorem jm5 (A : Option Addr) (n c : Nat) (x : Card) (B : Option Addr) (m e : Nat) (cs : List Int) (w : World) (hx : Sees w 0 2 A n (x.punches.flatMap Punch.enc)) (hn : n ≤ 1048576) (hnc : n ≤ c) (hy : Sees w 0 1 B m (jb4 cs)) (hm : m ≤ 1048576) :
  Calls Tryz.prog 242 #[.agg #[x.number, x.start, x.finish, .slice A n c], .slice B m e] w (jjy w (jdb x.punches cs)) := by
 have hmf : ∀ (fn : Fn) (first cap : Array Value) (w : World), (Instr.makeFunc fn first cap).run Tryz.prog w = .ok (.func fn first cap) w := fun _ _ _ _ => rfl
 have HL := Lib.hid (hx.count (by decide) (fun _ => rfl))
 have HM := Lib.hid hy.icount
 have K0 := nB2 w (.cells #[x.number, x.start, x.finish, .slice A n c] 106) (.cells #[] 3)
 have P0 := nPa w [x.number, x.start, x.finish, .slice A n c] 106 (.cells #[] 3)
 have o0 := ja5 (w := (w.alloc (.cells #[x.number, x.start, x.finish, .slice A n c] 106))) (g := w.heap.size + 1) 3 1 (by simp)
 go_enter Tryz.func242, Tryz.ntmps242
 go_wp2_with fail
 go_loopw [5, 6, 13] (fun v q i wr => ∃ (k : Nat) (out : List Int) (nx : Nat) (A' : Option Addr) (c' : Nat), k ≤ m ∧ i = .int .i64 (k : Int) ∧ q = .int .i64 (nx : Int) ∧ v = .slice A' k c' ∧ wr.ownsRow (w.heap.size + 1) 3 1 (.slice A' k c') k (jb4 out) ∧ nx ≤ n ∧ Hid (fTo x.punches cs k = (out, nx)) ∧ Blk wr w.heap.size 106 [.int .i64 x.number, .int .i64 x.start, .int .i64 x.finish, .slice A n c] ∧ Below w.heap.size w wr) (fun _ _ i _ => m - (intOf i).toNat)
 case atStart => exact ⟨0, [], 0, _, 0, Nat.zero_le _, rfl, rfl, rfl, o0, Nat.zero_le _, Lib.hid rfl, P0, K0⟩
 case round =>
  obtain ⟨k, out, nx, A', c', hk, rfl, rfl, rfl, own, hnx, HO, PB, hb⟩ := hrel
  clear o0 P0 K0
  by_cases hlt : k < m
  ·obtain ⟨bk, offk, rfl, hkx, x0⟩ := (hy.next hb).int hlt
   have hblt := World.block_lt_of_cell? wr _ x0
   have hbm := PB.lt
   have hxr := hx.next (hb.alloc hb.size (.cells #[.int .i64 cs[k]] 3))
   have K3 := hb.alloc hb.size (.cells #[.int .i64 cs[k]] 3)
   have P3 := PB.alloc (.cells #[.int .i64 cs[k]] 3)
   have own3 := jd4 own (.cells #[.int .i64 cs[k]] 3)
   have ans := jg7 (x.punches.drop nx) cs[k] wr.heap.size (wr.alloc (.cells #[.int .i64 cs[k]] 3)) (Blk.at_ rfl)
   have pc := P3.cell
   have hnc2 : nx ≤ c := by omega
   by_cases hend : nx = n
   ·have hsub : ∀ B' : Option Addr, Sees (wr.alloc (.cells #[.int .i64 cs[k]] 3)) 0 2 B' (n - nx) ((x.punches.drop nx).flatMap Punch.enc) := fun B' => by
     rw [List.drop_of_length_le (by rw [HL.out]; omega), show n - nx = 0 by omega]; exact Sees.nil _ _ _ _
    have hsub0 : ∀ B' : Option Addr, Sees (wr.alloc (.cells #[.int .i64 cs[k]] 3)) 0 2 B' 0 ((x.punches.drop nx).flatMap Punch.enc) := fun B' => by
     rw [List.drop_of_length_le (by rw [HL.out]; omega)]; exact Sees.nil _ _ _ _
    have hnn : (nx : Int) ≤ (n : Int) := by omega
    have HEND := Lib.hid (show (x.punches.drop nx).length = 0 by rw [List.length_drop, HL.out]; omega)
    clear hend
    by_cases hcn : c = nx
    ·have hcn2 : nx = c := hcn.symm
     subst hcn2
     clear hcn
     cases A with
     | none =>
      go_wp2_with fail
      first
       | ((with_reducible refine (jay 252 #[.pointer (some ⟨wr.heap.size, 0, none⟩)] _ _ _ _ (x.punches.drop nx) _ (hsub0 _) (by omega) ans).mono ?_))
       | ((with_reducible refine (jay 252 #[.pointer (some ⟨wr.heap.size, 0, none⟩)] _ _ _ _ (x.punches.drop nx) _ (hsub _) (by omega) ans).mono ?_))
      rintro e w4 ⟨r, rfl, hr, b4⟩
      have K4 := jaa K3 b4
      have P4 := P3.next b4
      rcases hr with ⟨rfl, hno⟩ | ⟨j, rfl, hj, hpj, hbj⟩
      ·have HN := Lib.hid (show fTo x.punches cs (k + 1) = (out ++ [-1], nx) by rw [jdl _ _ hkx, HO.out, je7 hno])
       clear hno ans hsub hsub0
       go_wp2_with (at_builtin; go_loud (refine jac rfl _ _ _ rfl Tryz.underlying90 ja8 rfl (by decide) rfl (jad own3 b4) rfl (by simp) (by rfl) (by rfl) (by omega) (by decide) P4.lt ?_); intro A9 c9 w9 o9 h9 b9 q9)
       go_roundw
       case rel => exact ⟨k + 1, out ++ [-1], nx, A9, c9, by omega, by go_num, rfl, rfl, by simpa [jb4] using o9, hnx, HN, P4.only h9 (jcj own3 (by omega)), K4.trans (b9.mono (by omega))⟩
       case measure => simp [intOf]; omega
      ·exact absurd hj (by rw [HEND.out]; omega)
     | some a =>
      go_wp2_with fail
      first
       | ((with_reducible refine (jay 252 #[.pointer (some ⟨wr.heap.size, 0, none⟩)] _ _ _ _ (x.punches.drop nx) _ (hsub0 _) (by omega) ans).mono ?_))
       | ((with_reducible refine (jay 252 #[.pointer (some ⟨wr.heap.size, 0, none⟩)] _ _ _ _ (x.punches.drop nx) _ (hsub _) (by omega) ans).mono ?_))
      rintro e w4 ⟨r, rfl, hr, b4⟩
      have K4 := jaa K3 b4
      have P4 := P3.next b4
      rcases hr with ⟨rfl, hno⟩ | ⟨j, rfl, hj, hpj, hbj⟩
      ·have HN := Lib.hid (show fTo x.punches cs (k + 1) = (out ++ [-1], nx) by rw [jdl _ _ hkx, HO.out, je7 hno])
       clear hno ans hsub hsub0
       go_wp2_with (at_builtin; go_loud (refine jac rfl _ _ _ rfl Tryz.underlying90 ja8 rfl (by decide) rfl (jad own3 b4) rfl (by simp) (by rfl) (by rfl) (by omega) (by decide) P4.lt ?_); intro A9 c9 w9 o9 h9 b9 q9)
       go_roundw
       case rel => exact ⟨k + 1, out ++ [-1], nx, A9, c9, by omega, by go_num, rfl, rfl, by simpa [jb4] using o9, hnx, HN, P4.only h9 (jcj own3 (by omega)), K4.trans (b9.mono (by omega))⟩
       case measure => simp [intOf]; omega
      ·exact absurd hj (by rw [HEND.out]; omega)
    ·cases A with
     | none =>
      go_wp2_with fail
      first
       | ((with_reducible refine (jay 252 #[.pointer (some ⟨wr.heap.size, 0, none⟩)] _ _ _ _ (x.punches.drop nx) _ (hsub0 _) (by omega) ans).mono ?_))
       | ((with_reducible refine (jay 252 #[.pointer (some ⟨wr.heap.size, 0, none⟩)] _ _ _ _ (x.punches.drop nx) _ (hsub _) (by omega) ans).mono ?_))
      rintro e w4 ⟨r, rfl, hr, b4⟩
      have K4 := jaa K3 b4
      have P4 := P3.next b4
      rcases hr with ⟨rfl, hno⟩ | ⟨j, rfl, hj, hpj, hbj⟩
      ·have HN := Lib.hid (show fTo x.punches cs (k + 1) = (out ++ [-1], nx) by rw [jdl _ _ hkx, HO.out, je7 hno])
       clear hno ans hsub hsub0
       go_wp2_with (at_builtin; go_loud (refine jac rfl _ _ _ rfl Tryz.underlying90 ja8 rfl (by decide) rfl (jad own3 b4) rfl (by simp) (by rfl) (by rfl) (by omega) (by decide) P4.lt ?_); intro A9 c9 w9 o9 h9 b9 q9)
       go_roundw
       case rel => exact ⟨k + 1, out ++ [-1], nx, A9, c9, by omega, by go_num, rfl, rfl, by simpa [jb4] using o9, hnx, HN, P4.only h9 (jcj own3 (by omega)), K4.trans (b9.mono (by omega))⟩
       case measure => simp [intOf]; omega
      ·exact absurd hj (by rw [HEND.out]; omega)
     | some a =>
      go_wp2_with fail
      first
       | ((with_reducible refine (jay 252 #[.pointer (some ⟨wr.heap.size, 0, none⟩)] _ _ _ _ (x.punches.drop nx) _ (hsub0 _) (by omega) ans).mono ?_))
       | ((with_reducible refine (jay 252 #[.pointer (some ⟨wr.heap.size, 0, none⟩)] _ _ _ _ (x.punches.drop nx) _ (hsub _) (by omega) ans).mono ?_))
      rintro e w4 ⟨r, rfl, hr, b4⟩
      have K4 := jaa K3 b4
      have P4 := P3.next b4
      rcases hr with ⟨rfl, hno⟩ | ⟨j, rfl, hj, hpj, hbj⟩
      ·have HN := Lib.hid (show fTo x.punches cs (k + 1) = (out ++ [-1], nx) by rw [jdl _ _ hkx, HO.out, je7 hno])
       clear hno ans hsub hsub0
       go_wp2_with (at_builtin; go_loud (refine jac rfl _ _ _ rfl Tryz.underlying90 ja8 rfl (by decide) rfl (jad own3 b4) rfl (by simp) (by rfl) (by rfl) (by omega) (by decide) P4.lt ?_); intro A9 c9 w9 o9 h9 b9 q9)
       go_roundw
       case rel => exact ⟨k + 1, out ++ [-1], nx, A9, c9, by omega, by go_num, rfl, rfl, by simpa [jb4] using o9, hnx, HN, P4.only h9 (jcj own3 (by omega)), K4.trans (b9.mono (by omega))⟩
       case measure => simp [intOf]; omega
      ·exact absurd hj (by rw [HEND.out]; omega)
   ·obtain ⟨b, off, rfl, _, _, _⟩ := hx.at' (by omega)
    have hsub := SeesAt.drop hxr (by decide) (fun _ => rfl) nx hnx
    have hcn : ¬ c = nx := by omega
    clear hend
    go_wp2_with fail
    ((with_reducible refine (jay 252 #[.pointer (some ⟨wr.heap.size, 0, none⟩)] _ _ _ _ (x.punches.drop nx) _ hsub (by omega) ans).mono ?_))
    rintro e w4 ⟨r, rfl, hr, b4⟩
    have K4 := jaa K3 b4
    have P4 := P3.next b4
    rcases hr with ⟨rfl, hno⟩ | ⟨j, rfl, hj, hpj, hbj⟩
    ·have HN := Lib.hid (show fTo x.punches cs (k + 1) = (out ++ [-1], nx) by rw [jdl _ _ hkx, HO.out, je7 hno])
     clear hno ans hsub
     go_wp2_with (at_builtin; go_loud (refine jac rfl _ _ _ rfl Tryz.underlying90 ja8 rfl (by decide) rfl (jad own3 b4) rfl (by simp) (by rfl) (by rfl) (by omega) (by decide) P4.lt ?_); intro A9 c9 w9 o9 h9 b9 q9)
     go_roundw
     case rel => exact ⟨k + 1, out ++ [-1], nx, A9, c9, by omega, by go_num, rfl, rfl, by simpa [jb4] using o9, hnx, HN, P4.only h9 (jcj own3 (by omega)), K4.trans (b9.mono (by omega))⟩
     case measure => simp [intOf]; omega
    ·have HN := Lib.hid (show fTo x.punches cs (k + 1) = (out ++ [((nx + j : Nat) : Int)], nx + j + 1) by rw [jdl _ _ hkx, HO.out, jl9 hj hpj hbj])
     have hjn : nx + j + 1 ≤ n := by have h := hj; rw [List.length_drop, HL.out] at h; omega
     have hsum : (j : Int) + (nx : Int) = ((nx + j : Nat) : Int) := by omega
     have HSM := Lib.hid hsum
     clear hj hpj hbj ans hsub hsum
     go_wp2_with (at_builtin; go_loud (refine jac rfl _ _ _ rfl Tryz.underlying90 ja8 rfl (by decide) rfl (jad own3 b4) rfl (by simp) (by rfl) (by rfl) (by omega) (by decide) P4.lt ?_); intro A9 c9 w9 o9 h9 b9 q9)
     go_roundw
     case rel => exact ⟨k + 1, out ++ [((nx + j : Nat) : Int)], nx + j + 1, A9, c9, by omega, by go_num, by congr 1; omega, rfl, by rw [← HSM.out]; simpa [jb4] using o9, hjn, HN, P4.only h9 (jcj own3 (by omega)), K4.trans (b9.mono (by omega))⟩
     case measure => simp [intOf]; omega
  ·obtain rfl : k = m := by omega
   have HE := Lib.hid (show jdb x.punches cs = out by unfold jdb; rw [show cs.length = k from HM.out, HO.out])
   go_wp2_with fail
   go_ret
   rw [HE.out]
   have h9 := jpd own
   subst h9
   exact ⟨A', c', rfl, jax own (by omega), hb⟩
end Go.Proofs.YtflpcdffmpfdpaaGreatDoor
