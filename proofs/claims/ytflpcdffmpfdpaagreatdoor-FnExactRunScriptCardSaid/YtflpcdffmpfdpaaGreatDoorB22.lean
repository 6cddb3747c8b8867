/- Joined texts of this proof: CmdQ, RunO, CmdB. -/
import Derived.Test.YtflpcdffmpfdpaaGreatDoorB21
import Derived.Test.YtflpcdffmpfdpaaGreatDoorB17
set_option maxRecDepth 100000
set_option maxHeartbeats 8000000
namespace Go.Proofs.YtflpcdffmpfdpaaGreatDoor
open Go.RowKit
theorem jfx {r : RaceV} (h : ja0 r = true) : 1 ≤ r.field.length ∧ r.field.length ≤ 8 := by
 obtain ⟨_, _, h2, h3, _⟩ := jam h
 exact ⟨h2, h3⟩
theorem jif {r : RaceV} (h : ja0 r = true) : ((jcw r).getD []).length ≤ 8 ∧ ∀ x ∈ (jcw r).getD [], -1000000000 ≤ x ∧ x ≤ 1000000000 := by
 have h8 := jfx h
 unfold jcw
 rw [if_pos h]
 refine ⟨Nat.le_trans (jhm _ _ _) h8.2, fun x hx => ?_⟩
 obtain ⟨i, rfl, hi, _⟩ := ji7.1 hx
 omega
theorem jg3 {r : RaceV} (h : ja0 r = true) : ((jbw r).getD []).length ≤ 8 ∧ ∀ x ∈ (jbw r).getD [], -1000000000 ≤ x ∧ x ≤ 1000000000 := by
 have h8 := jfx h
 unfold jbw
 rw [if_pos h]
 refine ⟨by simp [jb7], fun x hx => ?_⟩
 simp only [Option.getD_some, jb7, List.mem_cons, List.not_mem_nil, or_false] at hx
 have h0 := fun i => jot i r.field
 rcases hx with rfl | rfl | rfl | rfl | rfl
 ·have := h0 0; omega
 ·have := h0 1; omega
 ·have := h0 2; omega
 ·have := h0 3; omega
 ·have := h0 4; omega
theorem jnf {t : Int} {cl : Bool} {i : Nat} {x : Entrant} {p : Int × Int} (h : jcr t cl i x = true) (hl : jgm x = some p) : (0 ≤ p.1 ∧ p.1 ≤ 99) ∧ (0 ≤ p.2 ∧ p.2 ≤ 36000) := by
 unfold jgm at hl
 by_cases hs : x.state = 1 ∨ x.state = 3
 ·rw [if_pos hs] at hl
  unfold jcr at h
  rw [if_neg (by omega), if_neg (by omega), if_pos (by omega)] at h
  simp only [Bool.and_eq_true] at h
  obtain ⟨c1, c2, c3, c4, c5⟩ := jna h.2.1
  cases hg : x.punches.getLast? with
  | none =>
   rw [hg] at hl
   injection hl with hl
   subst hl
   exact ⟨⟨Int.le_refl _, by show (0 : Int) ≤ 99; decide⟩, c2⟩
  | some q =>
   rw [hg] at hl
   injection hl with hl
   subst hl
   obtain ⟨k, hk, rfl⟩ := List.getElem_of_mem (List.mem_of_getLast? hg)
   have h9 := jj9 (c5 k hk)
   have h10 := jaq h9.1
   have e1 : x.card.punches[k]'hk = x.punches[k] := rfl
   rw [e1] at h9 h10
   exact ⟨by show 0 ≤ x.punches[k].code ∧ x.punches[k].code ≤ 99; omega, h9.2.1⟩
 ·rw [if_neg hs] at hl
  cases hl
theorem jj8 {r : RaceV} {e : Int} (h : ja0 r = true) : (-1000000000 ≤ ((jbz r e).getD (0, 0)).1 ∧ ((jbz r e).getD (0, 0)).1 ≤ 1000000000) ∧ (-1000000000 ≤ ((jbz r e).getD (0, 0)).2 ∧ ((jbz r e).getD (0, 0)).2 ≤ 1000000000) := by
 cases hl : jbz r e with
 | none => exact ⟨⟨by decide, by decide⟩, ⟨by decide, by decide⟩⟩
 | some p =>
  show (-1000000000 ≤ p.1 ∧ p.1 ≤ 1000000000) ∧ (-1000000000 ≤ p.2 ∧ p.2 ≤ 1000000000)
  unfold jbz at hl
  split at hl
  ·cases hx : r.field[e.toNat]? with
   | none => rw [hx] at hl; cases hl
   | some x =>
    rw [hx] at hl
    obtain ⟨hk, rfl⟩ := List.getElem?_eq_some_iff.1 hx
    obtain ⟨_, _, _, _, h4⟩ := jam h
    have h5 := jnf (h4 _ hk) hl
    omega
  ·cases hl
theorem jhv {xs : List RunE} {cs : List Int} {limit : Int} (h : xs.length ≤ 8) : ((jb9 xs cs limit).getD []).length ≤ 8 ∧ ∀ x ∈ (jb9 xs cs limit).getD [], -1000000000 ≤ x ∧ x ≤ 1000000000 := by
 refine ⟨Nat.le_trans (jn9 _ _ _) h, fun x hx => ?_⟩
 unfold jb9 at hx
 by_cases g : jd8 xs cs limit = true
 ·rw [if_pos g] at hx
  unfold jd8 at g
  simp only [Bool.and_eq_true] at g
  have := jmj g.1 x hx
  omega
 ·rw [if_neg g] at hx
  cases hx
theorem jj7 {r : RaceV} {rs : List RunE} (h : jeu r = some rs) : 1 ≤ rs.length ∧ rs.length ≤ 8 ∧ ∀ x ∈ rs, x.punches.length ≤ 12 := by
 unfold jeu at h
 by_cases g : (ja0 r && r.closed) = true
 ·rw [if_pos g] at h
  injection h with h
  subst h
  simp only [Bool.and_eq_true] at g
  have h8 := jfx g.1
  rw [jfy]
  refine ⟨h8.1, h8.2, fun x hx => ?_⟩
  obtain ⟨k, hk, rfl⟩ := List.getElem_of_mem hx
  have hk' : k < r.field.length := by rw [jfy] at hk; exact hk
  have e1 : (jdu r.field)[k].punches = r.field[k].punches := by simp [jdu, jid]
  rw [e1]
  exact (jco g.1 _ (List.getElem_mem hk')).1
 ·rw [if_neg g] at h
  cases h
theorem jb2 {r : RaceV} (h : ja0 r = true) : ∀ x ∈ r.field, x.cnt ≤ 1048576 := fun x hx => by
 have := (jco h x hx).1
 unfold Entrant.cnt
 omega
theorem jpo (R : List RunH) {t : Nat} (ht : t < R.length) : (R.take (t + 1)).map (fun r => r.x.runner) = (R.take t).map (fun r => r.x.runner) ++ [R[t].x.runner] := by
 rw [List.take_succ_eq_append_getElem ht, List.map_append]
 rfl
def GoodH (w : World) (x : RunH) : Prop := Sees w 0 2 x.A x.n (x.x.punches.flatMap Punch.enc) ∧ x.n ≤ 1048576 ∧ x.n ≤ x.c ∧ jd3 x.x = true
theorem GoodH.below {w w1 : World} {x : RunH} (h : GoodH w x) (hb : Below w.heap.size w w1) : Sees w1 0 2 x.A x.n (x.x.punches.flatMap Punch.enc) ∧ x.n ≤ 1048576 ∧ x.n ≤ x.c ∧ jd3 x.x = true := ⟨h.1.next hb, h.2⟩
theorem GoodH.next {w w' : World} {x : RunH} (h : GoodH w x) (hb : Below w.heap.size w w') : GoodH w' x := ⟨h.1.next hb, h.2⟩
theorem goods {w : World} {rs : List RunH} (hin : ∀ r ∈ rs, Sees w 0 2 r.A r.n (r.x.punches.flatMap Punch.enc) ∧ r.n ≤ r.c) (hi : ∀ x ∈ rs.map Hd.x, x.punches.length ≤ 1048576) (hg : jat (rs.map Hd.x) = true) : ∀ r ∈ rs, GoodH w r := by
 intro r hr
 have h1 := hin r hr
 have h2 := hi r.x (List.mem_map_of_mem hr)
 have h3 := h1.1.count (enc := Punch.enc) (by decide) (fun _ => rfl)
 obtain ⟨k, hk, rfl⟩ := List.getElem_of_mem hr
 have h4 := (jdk hg).2 k (by simpa using hk)
 rw [List.getElem_map] at h4
 exact ⟨h1.1, by omega, h1.2, h4⟩
theorem jkp {w0 : World} {bc bl : Nat} {B : Option Addr} {m e : Nat} {cs : List Int} {limit : Int} (hy : Sees w0 0 1 B m (jb4 cs)) (hm : m ≤ 1048576) (cbc : w0.cell? ⟨bc, 0, none⟩ = some (.slice B m e)) (cbl : w0.cell? ⟨bl, 0, none⟩ = some (.int .i64 limit)) :
  ComparesB w0 180 #[.pointer (some ⟨bc, 0, none⟩), .pointer (some ⟨bl, 0, none⟩)] (fun x : RunH => .agg (RunH.enc x).toArray) (cfK cs limit) (GoodH w0) :=
 ⟨enters_of Tryz.func180 (by kernel_rfl) rfl, fun x y hx hz W hW => jhf x y bc bl B m e cs limit W (hx.next hW) (hz.next hW) (hy.next hW) hm ((hW.cell (p := ⟨bc, 0, none⟩) (World.block_lt_of_cell? w0 _ cbc)).trans cbc) ((hW.cell (p := ⟨bl, 0, none⟩) (World.block_lt_of_cell? w0 _ cbl)).trans cbl)⟩
theorem jhu (A : Option Addr) (n c : Nat) (xs : List RunE) (B : Option Addr) (m e : Nat) (cs : List Int) (limit : Int) (w : World) (hx : SeesC w 0 A n xs) (h0 : 0 < n) (hn : n ≤ 1000) (hi : ∀ x ∈ xs, x.punches.length ≤ 1048576) (hy : Sees w 0 1 B m (jb4 cs)) (hm : m ≤ 1048576) :
  Calls Tryz.prog 140 #[.slice A n c, .slice B m e, .int .i64 limit] w (jbj w (jb9 xs cs limit)) := by
 have K0 := nB2 w (.cells #[.slice B m e] 90) (.cells #[limit] 3)
 have P0 := nPa w [.slice B m e] 90 (.cells #[limit] 3)
 have Q0 := nQ w (.cells #[.slice B m e] 90) [limit] 3
 have HXL := Lib.hid hx.count
 have pc := P0.cell
 have qc := Q0.cell
 go_enter Tryz.func140, Tryz.ntmps140
 go_wp2_with fail
 generalize (w.alloc _).alloc _ = w1 at *
 refine (jk8 A n c xs B m e cs limit _ (hx.next K0) (by omega) hi (hy.next K0) hm).mono ?_
 clear pc qc
 rintro e9 w2 ⟨rfl, b⟩
 replace hx := hx.next (jaa K0 b)
 replace hy := hy.next (jaa K0 b)
 replace P0 := P0.next b
 replace Q0 := Q0.next b
 replace K0 := jaa K0 b
 clear b
 cases g : jd8 xs cs limit
 ·go_wp2_with fail
  go_ret2
  rw [show jb9 xs cs limit = none by simp [jb9, g]]
  exact jhw K0
 ·have hg : jat xs = true := by
   unfold jd8 at g
   simp only [Bool.and_eq_true] at g
   exact g.1
  obtain ⟨rs, hrs, hx2, hin⟩ := hx
  rw [← hrs] at hi hg
  have hG := goods hin hi hg
  obtain ⟨R, hR⟩ : ∃ R, jbm (jc8 (cfK cs limit)) rs = R := ⟨_, rfl⟩
  have HR := Lib.hid (show jb9 xs cs limit = some (R.map fun r => r.x.runner) by unfold jb9; rw [if_pos g, ← hR, jn6 hg, hrs])
  have hrl : rs.length = n := by have h1 := HXL.out; rw [← hrs, List.length_map] at h1; exact h1
  have HRL := Lib.hid (show R.length = n by rw [← hR, jc6]; exact hrl)
  have h10 : n ≤ 10 := by have := (jdk hg).1; rw [List.length_map] at this; omega
  have hc := jkp (e := e) hy hm (P0.cell 0) (Q0.cell 0)
  have HRR := Lib.hid hR
  have HG := Lib.hid hG
  have HC := Lib.hid hc
  have HRS := Lib.hid hrl
  clear g hR hin hrs hi hg hrl hG hc
  go_wp2_with fail
  refine (joj A n c rs _ hx2 h0 (by omega)).mono ?_
  rintro e9 w3 ⟨A, c, rfl, o2, b2⟩
  have K2 := jaa K0 b2
  rcases jby o2 with ⟨-, hz, -, -⟩ | ⟨g, cur, rfl, hgb, hB, hcl, hnc, hcm, htk⟩
  ·omega
  have hgt := hB.lt
  have o3 := jd4 o2 (.cells #[] 3)
  have u3 := ja4 w3 3 1
  have B3 := hB.alloc (.cells #[] 3)
  have K3 := K2.alloc K2.size (.cells #[] 3)
  have b3 : Below w2.heap.size w2 (w3.alloc (.cells #[] 3)) := b2.alloc b2.size _
  have hz1 := K0.size
  have hz2 := b2.size
  have hz3 := nZ w3 (.cells #[] 3)
  clear o2 b2 K2 hx2 hB
  go_wp2_with fail
  generalize w3.alloc _ = w4 at *
  have hcur : cur = rs.flatMap RunH.enc ++ cur.drop (n * 7) := by rw [← htk, List.take_append_drop]
  rw [hcur] at B3
  have hcl2 : (R.flatMap RunH.enc ++ cur.drop (n * 7)).length = c * 7 := by
   rw [List.length_append, List.length_drop, hcl, jak (s := 7) _ (fun _ _ => rfl), HRL.out]
   have := Nat.mul_le_mul_right 7 hnc
   omega
  have htk2 : (R.flatMap RunH.enc ++ cur.drop (n * 7)).take (n * 7) = R.flatMap RunH.enc := List.take_left' (by rw [jak (s := 7) _ (fun _ _ => rfl), HRL.out])
  have HT := Lib.hid hcl2
  have HT2 := Lib.hid htk2
  clear hcl htk hcur hcl2 htk2
  refine (jig w2 180 #[.pointer (some ⟨w.heap.size, 0, none⟩), .pointer (some ⟨w.heap.size + 1, 0, none⟩)] (cfK cs limit) (GoodH w2) HC.out g c n 160 rs (cur.drop (n * 7)) _ b3 hgb B3 HRS.out h10 HG.out).mono ?_
  rintro e9 w5 ⟨rfl, B5, O5⟩
  rw [HRR.out] at B5
  have o4 := jci (n := n) hgb B5 HT.out hnc hcm HT2.out
  have u4 := jbc u3 O5 (fun b hb hb2 => by have h5 : w3.heap.size = b := (by simpa [jaj, Value.ownBlock] using hb); omega)
  have K4 : Below w.heap.size w w5 := K3.trans (O5.below (fun b hb => by omega) (by omega))
  have hz4 := O5.size
  clear o3 u3 K3 O5 B3 B5 HC HG HT HT2 HRR HRS b3 P0 Q0 hy hm K0
  go_wp2_with fail
  go_loopw [9, 25] (fun v iv wr => ∃ (t : Nat) (A' : Option Addr) (c' : Nat), t ≤ n ∧ iv = .int .i64 (t : Int) ∧ v = .slice A' t c' ∧ wr.ownsRow w3.heap.size 3 1 (.slice A' t c') t (jb4 ((R.take t).map (fun r => r.x.runner))) ∧ wr.ownsRow w2.heap.size 160 7 (.slice (some ⟨g, 0, none⟩) n c) n (R.flatMap RunH.enc) ∧ w4.heap.size ≤ wr.heap.size ∧ Below w.heap.size w wr) (fun _ iv _ => n - (intOf iv).toNat)
  case atStart => exact ⟨0, _, 0, Nat.zero_le _, rfl, rfl, u4, o4, hz4, K4⟩
  case round =>
   obtain ⟨t, A', c', ht, rfl, rfl, own, orow, hzr, hb⟩ := hrel
   by_cases hlt : t < n
   ·have htR : t < R.length := by rw [HRL.out]; exact hlt
    obtain ⟨b, off, he, hkx, hx0⟩ := (Sees.of_own orow).elem (enc := RunH.enc) (by decide) (fun _ => rfl) hlt
    injection he with he
    injection he with he1 he2
    subst he1 he2
    have x0 := hx0 0 _ rfl
    have x1 := hx0 1 _ rfl
    have x2 := hx0 2 _ rfl
    have x3 := hx0 3 _ rfl
    have x4 := hx0 4 _ rfl
    have x5 := hx0 5 _ rfl
    have x6 := hx0 6 _ rfl
    simp only [Nat.zero_add, Nat.add_zero] at x0 x1 x2 x3 x4 x5 x6
    clear hx0
    have HN := Lib.hid (jpo R htR)
    have hblt := World.block_lt_of_cell? wr _ x0
    have ow := jd4 own (.cells #[.int .i64 R[t].x.runner, .bool R[t].x.started, .bool R[t].x.out, .int .i64 R[t].x.number, .int .i64 R[t].x.start, .int .i64 R[t].x.finish, .slice R[t].A R[t].n R[t].c] 160)
    have oro := jd4 orow (.cells #[.int .i64 R[t].x.runner, .bool R[t].x.started, .bool R[t].x.out, .int .i64 R[t].x.number, .int .i64 R[t].x.start, .int .i64 R[t].x.finish, .slice R[t].A R[t].n R[t].c] 160)
    have K5 := hb.alloc hb.size (.cells #[.int .i64 R[t].x.runner, .bool R[t].x.started, .bool R[t].x.out, .int .i64 R[t].x.number, .int .i64 R[t].x.start, .int .i64 R[t].x.finish, .slice R[t].A R[t].n R[t].c] 160)
    have hnp : (t : Int) < (n : Int) := by omega
    have hbase : w3.heap.size ≤ (wr.alloc (.cells #[.int .i64 R[t].x.runner, .bool R[t].x.started, .bool R[t].x.out, .int .i64 R[t].x.number, .int .i64 R[t].x.start, .int .i64 R[t].x.finish, .slice R[t].A R[t].n R[t].c] 160)).heap.size := by simp; omega
    go_wp2_with (at_builtin; go_loud (refine jac rfl _ _ _ rfl Tryz.underlying90 ja8 rfl (by decide) rfl ow rfl (by simp) (by rfl) (by rfl) (by omega) (by decide) hbase ?_); intro A9 c9 w9 o9 h9 b9 q9)
    go_roundw
    case rel => exact ⟨t + 1, A9, c9, by omega, by go_num, rfl, by rw [HN.out]; simpa [jb4] using o9, jbc oro h9 (fun b' hb' hb2 => by have h6 := (jai own hb2).1; have h7 : g = b' := (by simpa [jaj, Value.ownBlock] using hb'); omega), by have h8 := h9.size; simp at h8; omega, K5.trans (b9.mono (by omega))⟩
    case measure => simp [intOf]; omega
   ·obtain rfl : t = n := by omega
    go_wp2_with fail
    go_ret2
    rw [HR.out]
    have e1 : R.take t = R := List.take_of_length_le (by rw [HRL.out]; exact Nat.le_refl _)
    rw [e1] at own
    have e2 : (R.map (fun r => r.x.runner)).length = t := by rw [List.length_map]; exact HRL.out
    exact ⟨A', c', by show Ending.returned (.tuple #[.slice A' t c', .bool true]) = .returned (.tuple #[.slice A' (R.map fun r => r.x.runner).length c', .bool true]); rw [e2], by show wr.ownsRow w.heap.size 3 1 (.slice A' (R.map fun r => r.x.runner).length c') (R.map fun r => r.x.runner).length (jb4 (R.map fun r => r.x.runner)); rw [e2]; exact jax own (by omega), hb⟩
theorem jf0 (t : Int) (cl : Bool) (A : Option Addr) (n c : Nat) (xs : List Entrant) (k e v : Int) (w : World) (hx : SeesN entrantSh w 0 A n xs) (hg : ja0 ⟨t, cl, xs⟩ = true) (he : k = 3 ∨ k = 4 → 0 ≤ e ∧ e < (n : Int)) (hgl : Gl w) :
  Calls Tryz.prog 98 #[.agg #[t, cl, .slice A n c], .agg #[k, e, v]] w fun e' w' => e' = .returned (.string (jcl ⟨t, cl, xs⟩ k e)) ∧ Below w.heap.size w w' := by
 have K0 := nB2 w (.cells #[t, cl, .slice A n c] 32) (.cells #[k, e, v] 124)
 have P0 := nPa w [t, cl, .slice A n c] 32 (.cells #[k, e, v] 124)
 have Q0 := nQ w (.cells #[t, cl, .slice A n c] 32) [k, e, v] 124
 obtain ⟨ht0, ht1, hn1, hn8, -⟩ := jam hg
 have HLN := Lib.hid hx.count
 go_enter Tryz.func98, Tryz.ntmps98
 go_upto_region 1 with fail
 generalize (w.alloc _).alloc _ = w1 at *
 have pc := P0.cell
 have qc := Q0.cell
 have hx0 := hx.next K0
 have hg0 := hgl.next K0
 have hg1 : 0 ≤ t ∧ t ≤ 36000 := ⟨ht0, ht1⟩
 clear hx hgl ht0 ht1
 by_cases k3 : k = 3
 ·subst k3
  have he' := he (Or.inl rfl)
  obtain ⟨i, rfl⟩ : ∃ i : Nat, e = (i : Int) := ⟨e.toNat, by omega⟩
  have hix : i < n := by omega
  have hi2 : (i : Int) < (n : Int) := by omega
  clear he he'
  obtain ⟨b, off, B0, mc, cc0, rfl, hkx, y0, y1, y2, y3, y4, hxi⟩ := SeesEntrant.elem hx0 hix
  obtain ⟨x, HX⟩ : ∃ x, Hid (xs[i] = x) := ⟨_, Lib.hid rfl⟩
  have hbd := jco hg _ (List.getElem_mem hkx)
  have HE := Lib.hid (show xs[((i : Nat) : Int).toNat]? = some x by rw [Int.toNat_natCast, List.getElem?_eq_getElem hkx, HX.out])
  rw [HX.out] at y0 y1 y2 y3 hxi hbd
  have hmc := hxi.count (by decide) (fun _ => rfl)
  have HR := Lib.hid (show jcl ⟨t, cl, xs⟩ 3 (i : Int) = jbe (mc : Int) by
   unfold jcl
   rw [if_pos rfl, show (⟨t, cl, xs⟩ : RaceV).field[((i : Nat) : Int).toNat]? = some x from HE.out]
   show jbe (x.punches.length : Int) = _
   rw [hmc])
  have z4 : w1.cell? ⟨b, off + i * 5 + 1 + 3, none⟩ = some (.slice B0 mc cc0) := y4
  have hm12 : mc ≤ 12 := by omega
  clear hbd hmc y0 y1 y2 y3 y4 hxi hg hn1 hn8 hx0
  go_wp2_with (go_at_call 74; go_must (refine (jbh (mc : Int) _ (by omega) (by omega) hg0).mono ?_; rintro e9 w9 ⟨rfl, b9⟩))
  go_ret
  rw [HR.out]
  exact ⟨rfl, jaa K0 b9⟩
 by_cases k4 : k = 4
 ·subst k4
  have he' := he (Or.inr rfl)
  obtain ⟨i, rfl⟩ : ∃ i : Nat, e = (i : Int) := ⟨e.toNat, by omega⟩
  have hix : i < n := by omega
  have hi2 : (i : Int) < (n : Int) := by omega
  clear he he' k3
  obtain ⟨b, off, B0, mc, cc0, rfl, hkx, y0, y1, y2, y3, y4, hxi⟩ := SeesEntrant.elem hx0 hix
  obtain ⟨x, HX⟩ : ∃ x, Hid (xs[i] = x) := ⟨_, Lib.hid rfl⟩
  have hbd := jco hg _ (List.getElem_mem hkx)
  have HE := Lib.hid (show xs[((i : Nat) : Int).toNat]? = some x by rw [Int.toNat_natCast, List.getElem?_eq_getElem hkx, HX.out])
  rw [HX.out] at y0 y1 y2 y3 hxi hbd
  have hmc := hxi.count (by decide) (fun _ => rfl)
  obtain ⟨sa, hsa⟩ : ∃ s, x.start = s := ⟨_, rfl⟩
  obtain ⟨fi, hfi⟩ : ∃ s, x.finish = s := ⟨_, rfl⟩
  obtain ⟨nu, hnu⟩ : ∃ s, x.number = s := ⟨_, rfl⟩
  rw [hsa] at y2 hbd
  rw [hfi] at y3 hbd
  rw [hnu] at y1
  have HR := Lib.hid (show jcl ⟨t, cl, xs⟩ 4 (i : Int) = jbe (fi - sa) by
   unfold jcl
   rw [if_neg (by decide), if_pos rfl, show (⟨t, cl, xs⟩ : RaceV).field[((i : Nat) : Int).toNat]? = some x from HE.out]
   show jbe (x.finish - x.start) = _
   rw [hsa, hfi])
  have z1 : w1.cell? ⟨b, off + i * 5 + 1, none⟩ = some (.int .i64 nu) := y1
  have z2 : w1.cell? ⟨b, off + i * 5 + 1 + 1, none⟩ = some (.int .i64 sa) := y2
  have z3 : w1.cell? ⟨b, off + i * 5 + 1 + 2, none⟩ = some (.int .i64 fi) := y3
  have z4 : w1.cell? ⟨b, off + i * 5 + 1 + 3, none⟩ = some (.slice B0 mc cc0) := y4
  have K1 : Below w.heap.size w (w1.alloc (.cells #[nu, sa, fi, .slice B0 mc cc0] 106)) := K0.alloc K0.size _
  have U1 := nB w1 (.cells #[nu, sa, fi, .slice B0 mc cc0] 106)
  have D1 := nP w1 [nu, sa, fi, .slice B0 mc cc0] 106
  have hg2 := hg0.next U1
  obtain ⟨hb1, hb2, hb3, hb4, hb5⟩ := hbd
  clear hsa hfi hnu hb1 hmc y0 y1 y2 y3 y4 hxi hg hn1 hn8 hx0 U1
  go_upto_region 6 with fail
  generalize w1.alloc _ = w2 at *
  have dc := D1.cell
  go_wp2_with (go_at_call 74; go_must (refine (jbh (fi - sa) _ (by omega) (by omega) hg2).mono ?_; rintro e9 w9 ⟨rfl, b9⟩))
  go_ret
  rw [HR.out]
  exact ⟨rfl, jaa K1 b9⟩
 have e3 : (k == 3) = false := beq_eq_false_iff_ne.2 k3
 have e4 : (k == 4) = false := beq_eq_false_iff_ne.2 k4
 clear hx0 hg hn1 hn8 he
 by_cases k5 : k = 5
 ·subst k5
  clear k3 k4
  go_wp2_with fail
  go_ret
  exact ⟨rfl, K0⟩
 have e5 : (k == 5) = false := beq_eq_false_iff_ne.2 k5
 by_cases k6 : k = 6
 ·subst k6
  clear k3 k4 k5
  go_wp2_with fail
  go_ret
  exact ⟨rfl, K0⟩
 have e6 : (k == 6) = false := beq_eq_false_iff_ne.2 k6
 have HR := Lib.hid (show jcl ⟨t, cl, xs⟩ k e = jbe t by unfold jcl; rw [if_neg k3, if_neg k4, if_neg k5, if_neg k6])
 clear k3 k4 k5 k6
 go_wp2_with (go_at_call 74; go_must (refine (jbh t _ (by omega) (by omega) hg0).mono ?_; rintro e9 w9 ⟨rfl, b9⟩))
 go_ret
 rw [HR.out]
 exact ⟨rfl, jaa K0 b9⟩
theorem jo9 {R : Option (List Int)} {C : Option ByteArray} (h : C = R.map jbq) : C.isSome = R.isSome ∧ ∀ q, C = some q → jbq (R.getD []) = q := by
 subst h
 cases R with
 | none => exact ⟨rfl, fun q h => (by cases h)⟩
 | some L => exact ⟨rfl, fun q h => (by injection h)⟩
theorem joz (t : Int) (cl : Bool) (A : Option Addr) (n c : Nat) (xs : List Entrant) (s : ByteArray) (B : Option Addr) (m d : Nat) (l : List Int) (w : World) (hx : SeesN entrantSh w 0 A n xs) (hg : ja0 ⟨t, cl, xs⟩ = true) (hy : Sees w 0 1 B m (jb4 l)) (hm : m ≤ 4000) (ha : (jaz (cmK s)).1 ≤ (m : Int)) (hn : jdw (cmK s) l = none) (hk : (jaz (cmK s)).2.2 = true) (hgl : Gl w) :
  Calls Tryz.prog 96 #[.agg #[t, cl, .slice A n c], .string s, .slice B m d] w fun e' w' => ∃ p, e' = .returned (.tuple #[.string p, .bool (jew ⟨t, cl, xs⟩ (cmK s) l).isSome]) ∧ (∀ q, jew ⟨t, cl, xs⟩ (cmK s) l = some q → p = q) ∧ Below w.heap.size w w' := by
 have K0 := nB w (.cells #[t, cl, .slice A n c] 32)
 have P0 := nP w [t, cl, .slice A n c] 32
 obtain ⟨ht0, ht1, hn1, hn8, -⟩ := jam hg
 have HLN := Lib.hid hx.count
 have hln : n ≤ 8 := by have := hx.count; have h8 : xs.length ≤ 8 := hn8; omega
 have hx0 := hx.next K0
 have hgl0 := hgl.next K0
 replace hy := hy.next K0
 clear hx hgl
 rcases jcd s with ⟨hk0, rfl⟩ | ⟨hk0, rfl⟩ | ⟨hk0, rfl⟩ | ⟨hk0, rfl⟩ | ⟨hk0, rfl⟩ | ⟨hk0, rfl⟩ | ⟨hk0, rfl⟩ | ⟨hk0, rfl⟩ | ⟨hk0, rfl⟩ | ⟨hk0, rfl⟩ | ⟨hk0, rfl⟩ | ⟨hk0, rfl⟩ | ⟨hk0, -⟩
 ·exfalso
  rw [hk0] at hn hk
  cases hn
 ·rw [hk0] at ha hn hk ⊢
  clear hn hk
  go_enter Tryz.func96, Tryz.ntmps96
  go_upto_region 1 with fail
  generalize w.alloc _ = w1 at *
  have pc := P0.cell
  have hg1 : 0 ≤ t ∧ t ≤ 36000 := ⟨ht0, ht1⟩
  clear hg hn1 hn8 hy hx0 ht0 ht1
  go_wp2_with (go_at_call 74; go_must (refine (jbh t _ (by omega) (by omega) hgl0).mono ?_; rintro e9 w9 ⟨rfl, b9⟩))
  go_ret2
  exact ⟨_, rfl, fun q h => by injection h, jaa K0 b9⟩
 ·rw [hk0] at ha hn hk ⊢
  clear hn hk
  go_enter Tryz.func96, Tryz.ntmps96
  go_upto_region 1 with fail
  generalize w.alloc _ = w1 at *
  have pc := P0.cell
  obtain ⟨R, hR⟩ : ∃ R, jcw ⟨t, cl, xs⟩ = R := ⟨_, rfl⟩
  have hsm := jif hg
  rw [hR] at hsm
  have HF0 := jo9 (C := jew ⟨t, cl, xs⟩ 3 l) (R := R) (by rw [← hR]; rfl)
  obtain ⟨L, hL⟩ : ∃ L, R.getD [] = L := ⟨_, rfl⟩
  obtain ⟨ok, hok⟩ : ∃ ok, R.isSome = ok := ⟨_, rfl⟩
  obtain ⟨N, hN⟩ : ∃ N, L.length = N := ⟨_, rfl⟩
  have CC := jlx t cl A n c xs w1 hx0 (by omega) (jb2 hg)
  unfold jbj at CC
  rw [hR, hL, hok, hN] at CC
  rw [hL, hok] at HF0
  rw [hL, hN] at hsm
  obtain ⟨hs1, hs2⟩ := hsm
  have HF := Lib.hid HF0
  have HB := Lib.hid hs2
  have HC := Lib.hid CC
  clear hR hL hok hN HF0 hs2 CC hy
  go_wp2_with fail
  refine HC.out.mono ?_
  rintro e9 w2 ⟨A2, c2, rfl, o2, b2⟩
  clear HC pc
  go_wp2_with fail
  refine (jdx A2 N c2 _ L _ (Sees.of_own o2) (by omega) HB.out (hgl0.next b2)).mono ?_
  rintro e9 w9 ⟨rfl, b9⟩
  go_wp2_with fail
  go_ret2
  exact ⟨jbq L, by rw [HF.out.1]; rfl, HF.out.2, jaa K0 (jaa b2 b9)⟩
 ·rw [hk0] at ha hn hk ⊢
  clear hn hk
  go_enter Tryz.func96, Tryz.ntmps96
  go_upto_region 1 with fail
  generalize w.alloc _ = w1 at *
  have pc := P0.cell
  obtain ⟨R, hR⟩ : ∃ R, jbw ⟨t, cl, xs⟩ = R := ⟨_, rfl⟩
  have hsm := jg3 hg
  rw [hR] at hsm
  have HF0 := jo9 (C := jew ⟨t, cl, xs⟩ 4 l) (R := R) (by rw [← hR]; rfl)
  obtain ⟨L, hL⟩ : ∃ L, R.getD [] = L := ⟨_, rfl⟩
  obtain ⟨ok, hok⟩ : ∃ ok, R.isSome = ok := ⟨_, rfl⟩
  obtain ⟨N, hN⟩ : ∃ N, L.length = N := ⟨_, rfl⟩
  have CC := jh7 t cl A n c xs w1 hx0 (by omega) (jb2 hg)
  unfold jbj at CC
  rw [hR, hL, hok, hN] at CC
  rw [hL, hok] at HF0
  rw [hL, hN] at hsm
  obtain ⟨hs1, hs2⟩ := hsm
  have HF := Lib.hid HF0
  have HB := Lib.hid hs2
  have HC := Lib.hid CC
  clear hR hL hok hN HF0 hs2 CC hy
  go_wp2_with fail
  refine HC.out.mono ?_
  rintro e9 w2 ⟨A2, c2, rfl, o2, b2⟩
  clear HC pc
  go_wp2_with fail
  refine (jdx A2 N c2 _ L _ (Sees.of_own o2) (by omega) HB.out (hgl0.next b2)).mono ?_
  rintro e9 w9 ⟨rfl, b9⟩
  go_wp2_with fail
  go_ret2
  exact ⟨jbq L, by rw [HF.out.1]; rfl, HF.out.2, jaa K0 (jaa b2 b9)⟩
 ·exfalso
  rw [hk0] at hn hk
  cases hn
 ·exfalso
  rw [hk0] at hn hk
  cases hn
 ·exfalso
  rw [hk0] at hn hk
  cases hn
 ·exfalso
  rw [hk0] at hn hk
  cases hn
 ·rw [hk0] at ha hn hk ⊢
  clear hn hk
  go_enter Tryz.func96, Tryz.ntmps96
  go_upto_region 1 with fail
  generalize w.alloc _ = w1 at *
  have pc := P0.cell
  have hm0 : 1 ≤ m := by have := ha; simp only [jaz] at this; omega
  obtain ⟨b0, o0, rfl, hx1, x0⟩ := hy.int (show 0 < m by omega)
  have g0 : l[0] = l.getD 0 0 := by rw [List.getD_eq_getElem?_getD, List.getElem?_eq_getElem hx1]; rfl
  rw [g0] at x0
  clear g0
  obtain ⟨z, hz⟩ : ∃ z, l.getD 0 0 = z := ⟨_, rfl⟩
  rw [hz] at x0
  simp only [Nat.add_zero] at x0
  have hb0 := World.block_lt_of_cell? w1 _ x0
  have hz0 : (0 : Int) < (m : Int) := by omega
  have hzn : 0 < m := by omega
  obtain ⟨ib, hib⟩ : ∃ ib, inB z 0 ((n : Int) - 1) = ib := ⟨_, rfl⟩
  have HIB0 := Lib.hid hib
  have HIB := Lib.hid (show inB z 0 (IntKind.i64.wrap ((n : Int) - 1)) = ib by rw [IntWalk.i64_in _ (by omega)]; exact hib)
  have HR0 := Lib.hid (show jew ⟨t, cl, xs⟩ 9 l = if ib then (match xs[z.toNat]? with | some x => jd1 x.card | none => none) else none by
   show jjn ⟨t, cl, xs⟩ (l.getD 0 0) = _
   unfold jjn
   rw [hz, show inB z 0 (((⟨t, cl, xs⟩ : RaceV).field.length : Int) - 1) = ib from by rw [show (⟨t, cl, xs⟩ : RaceV).field.length = n from HLN.out]; exact hib]
   rfl)
  clear hib hz hy
  have hnn : n ≤ 8 := by have := HLN.out; have h8 : xs.length ≤ 8 := hn8; omega
  go_upto_region 11 with fail
  have bq := (Quiet.one w1).below w1.heap.size
  replace K0 := jaa K0 bq
  replace x0 := (bq.cell (p := ⟨b0, o0, none⟩) hb0).trans x0
  replace P0 := P0.next bq
  replace hx0 := hx0.next bq
  replace hgl0 := hgl0.next bq
  have pd := P0.cell 2
  clear bq pc P0
  go_region_held3 (fun w' => w'.cell? ⟨b0, o0, none⟩ = some (.int .i64 z) ∧ w'.cell? ⟨w.heap.size, 2, none⟩ = some (.slice A n c)) (go_keep)
   ((go_at_call 70; refine (jaf _ _ _ _).mono ?_; rw [HIB.out]; rintro e9 w9 ⟨rfl, rfl⟩))
  cases ib
  ·have HR := Lib.hid (show jew ⟨t, cl, xs⟩ 9 l = none from HR0.out)
   go_wp2_with fail
   go_ret2
   rw [HR.out]
   exact ⟨_, rfl, fun q h => (by cases h), K0⟩
  have hin := jaq HIB0.out
  obtain ⟨i, rfl⟩ : ∃ i : Nat, z = (i : Int) := ⟨z.toNat, by omega⟩
  have hix : i < n := by omega
  have hi2 : (i : Int) < (n : Int) := by omega
  clear hin
  obtain ⟨b, off, B0, mc, cc0, rfl, hkx, y0, y1, y2, y3, y4, hxi⟩ := SeesEntrant.elem hx0 hix
  obtain ⟨x, HX⟩ : ∃ x, Hid (xs[i] = x) := ⟨_, Lib.hid rfl⟩
  have hbd := jco hg _ (List.getElem_mem hkx)
  have HE := Lib.hid (show xs[((i : Nat) : Int).toNat]? = some x by rw [Int.toNat_natCast, List.getElem?_eq_getElem hkx, HX.out])
  rw [HX.out] at y0 y1 y2 y3 hxi hbd
  have hmc := hxi.count (by decide) (fun _ => rfl)
  have HR := Lib.hid (show jew ⟨t, cl, xs⟩ 9 l = jd1 x.card from HR0.out.trans (by rw [if_pos rfl, show xs[((i : Nat) : Int).toNat]? = some x from HE.out]))
  obtain ⟨sa, hsa⟩ : ∃ s, x.start = s := ⟨_, rfl⟩
  obtain ⟨fi, hfi⟩ : ∃ s, x.finish = s := ⟨_, rfl⟩
  obtain ⟨nu, hnu⟩ : ∃ s, x.number = s := ⟨_, rfl⟩
  obtain ⟨ps, hps⟩ : ∃ s, x.punches = s := ⟨_, rfl⟩
  have hcard : x.card = ⟨nu, sa, fi, ps⟩ := by unfold Entrant.card; rw [hsa, hfi, hnu, hps]
  obtain ⟨R, hR⟩ : ∃ R, jd1 ⟨nu, sa, fi, ps⟩ = R := ⟨_, rfl⟩
  rw [hcard, hR] at HR
  obtain ⟨p, hp⟩ : ∃ p, R.getD ⟨#[]⟩ = p := ⟨_, rfl⟩
  obtain ⟨ok, hok⟩ : ∃ ok, R.isSome = ok := ⟨_, rfl⟩
  have HF := Lib.hid (show (jew ⟨t, cl, xs⟩ 9 l).isSome = ok ∧ ∀ q, jew ⟨t, cl, xs⟩ 9 l = some q → p = q by rw [HR.out]; exact ⟨hok, fun q h => by rw [← hp, h]; rfl⟩)
  have HCT := Lib.hid (show (jd1 (⟨nu, sa, fi, ps⟩ : Card)).getD ⟨#[]⟩ = p ∧ (jd1 (⟨nu, sa, fi, ps⟩ : Card)).isSome = ok by rw [hR]; exact ⟨hp, hok⟩)
  rw [hsa] at y2
  rw [hfi] at y3
  rw [hnu] at y1
  rw [hps] at hxi
  have hm12 : mc ≤ 12 := by rw [← hmc]; exact hbd.1
  clear hbd hmc HE HR HR0 hsa hfi hnu hps hcard hR hp hok hg
  generalize w1.drew = w2 at *
  have bq := (Quiet.one w2).below w2.heap.size
  have Kq := jaa K0 bq
  clear K0
  have z1 : w2.drew.cell? ⟨b, off + i * 5 + 1, none⟩ = some (.int .i64 nu) := y1
  have z2 : w2.drew.cell? ⟨b, off + i * 5 + 1 + 1, none⟩ = some (.int .i64 sa) := y2
  have z3 : w2.drew.cell? ⟨b, off + i * 5 + 1 + 2, none⟩ = some (.int .i64 fi) := y3
  have z4 : w2.drew.cell? ⟨b, off + i * 5 + 1 + 3, none⟩ = some (.slice B0 mc cc0) := y4
  replace x0 : w2.drew.cell? ⟨b0, o0, none⟩ = some (.int .i64 (i : Int)) := x0
  replace pd : w2.drew.cell? ⟨w.heap.size, 2, none⟩ = some (.slice (some ⟨b, off, none⟩) n c) := pd
  replace hgl0 := hgl0.next bq
  replace hxi := hxi.next bq
  clear y0 y1 y2 y3 y4 bq hx0
  go_upto_region 13 with fail
  go_region_held3 (fun w' => w'.cell? ⟨b0, o0, none⟩ = some (.int .i64 (i : Int)) ∧ w'.cell? ⟨w.heap.size, 2, none⟩ = some (.slice (some ⟨b, off, none⟩) n c) ∧ w'.cell? ⟨b, off + i * 5 + 1, none⟩ = some (.int .i64 nu) ∧ w'.cell? ⟨b, off + i * 5 + 1 + 1, none⟩ = some (.int .i64 sa) ∧ w'.cell? ⟨b, off + i * 5 + 1 + 2, none⟩ = some (.int .i64 fi) ∧ w'.cell? ⟨b, off + i * 5 + 1 + 3, none⟩ = some (.slice B0 mc cc0)) (go_keep)
   ((go_at_call 137; go_must (refine (jlh B0 mc cc0 ⟨nu, sa, fi, ps⟩ _ hxi (by omega) hgl0).mono ?_; rw [HCT.out.1, HCT.out.2]; rintro e9 w9 ⟨rfl, b9⟩; replace Kq := jaa Kq b9; replace x0 := (b9.cell (p := ⟨b0, o0, none⟩) (World.block_lt_of_cell? _ _ x0)).trans x0; replace pd := (b9.cell (p := ⟨w.heap.size, 2, none⟩) (World.block_lt_of_cell? _ _ pd)).trans pd; replace z1 := (b9.cell (p := ⟨b, off + i * 5 + 1, none⟩) (World.block_lt_of_cell? _ _ z1)).trans z1; replace z2 := (b9.cell (p := ⟨b, off + i * 5 + 1 + 1, none⟩) (World.block_lt_of_cell? _ _ z2)).trans z2; replace z3 := (b9.cell (p := ⟨b, off + i * 5 + 1 + 2, none⟩) (World.block_lt_of_cell? _ _ z3)).trans z3; replace z4 := (b9.cell (p := ⟨b, off + i * 5 + 1 + 3, none⟩) (World.block_lt_of_cell? _ _ z4)).trans z4; clear b9)))
  go_wp2_with fail
  go_ret2
  exact ⟨p, by rw [HF.out.1]; rfl, HF.out.2, Kq⟩
 ·rw [hk0] at ha hn hk ⊢
  clear hn hk
  go_enter Tryz.func96, Tryz.ntmps96
  go_upto_region 1 with fail
  generalize w.alloc _ = w1 at *
  have pc := P0.cell
  have hm0 : 1 ≤ m := by have := ha; simp only [jaz] at this; omega
  obtain ⟨b0, o0, rfl, hx1, x0⟩ := hy.int (show 0 < m by omega)
  have g0 : l[0] = l.getD 0 0 := by rw [List.getD_eq_getElem?_getD, List.getElem?_eq_getElem hx1]; rfl
  rw [g0] at x0
  clear g0
  obtain ⟨z, hz⟩ : ∃ z, l.getD 0 0 = z := ⟨_, rfl⟩
  rw [hz] at x0
  simp only [Nat.add_zero] at x0
  have hb0 := World.block_lt_of_cell? w1 _ x0
  have hz0 : (0 : Int) < (m : Int) := by omega
  have hzn : 0 < m := by omega
  have hLS := jj8 (e := z) hg
  obtain ⟨R, hR⟩ : ∃ R, jbz ⟨t, cl, xs⟩ z = R := ⟨_, rfl⟩
  rw [hR] at hLS
  have CC := jmd t cl A n c xs z
  rw [hR] at CC
  obtain ⟨u, hu⟩ : ∃ u, (R.getD (0, 0)).1 = u := ⟨_, rfl⟩
  obtain ⟨v, hv⟩ : ∃ v, (R.getD (0, 0)).2 = v := ⟨_, rfl⟩
  obtain ⟨ok, hok⟩ : ∃ ok, R.isSome = ok := ⟨_, rfl⟩
  rw [hu, hv, hok] at CC
  rw [hu, hv] at hLS
  have HF := Lib.hid (show (jew ⟨t, cl, xs⟩ 10 l).isSome = ok ∧ ∀ q, jew ⟨t, cl, xs⟩ 10 l = some q → jbq [u, v] = q by
   have h0 : jew ⟨t, cl, xs⟩ 10 l = R.map fun p => jbq [p.1, p.2] := by
    show (jbz ⟨t, cl, xs⟩ (l.getD 0 0)).map _ = _
    rw [hz, hR]
   rw [h0]
   refine ⟨by rw [← hok]; cases R <;> rfl, fun q h => ?_⟩
   cases R with
   | none => cases h
   | some p => injection h with h; rw [← hu, ← hv, ← h]; rfl)
  have HCC := Lib.hid CC
  have HLS := Lib.hid (show ∀ x ∈ [u, v], -1000000000 ≤ x ∧ x ≤ 1000000000 by
   intro x hx
   rcases List.mem_cons.1 hx with rfl | hx
   ·exact hLS.1
   ·rw [List.mem_singleton.1 hx]; exact hLS.2)
  have hnn : n ≤ 1048576 := by have := HLN.out; have h8 : xs.length ≤ 8 := hn8; omega
  have HSC := Lib.hid (jb2 hg)
  clear CC hz hu hv hok hR hLS hy hg
  go_upto_region 15 with fail
  have bq := (Quiet.one w1).below w1.heap.size
  have Kq := jaa K0 bq
  replace x0 := (bq.cell (p := ⟨b0, o0, none⟩) hb0).trans x0
  replace P0 := P0.next bq
  replace hx0 := hx0.next bq
  replace hgl0 := hgl0.next bq
  have pd := P0.cell
  clear bq pc K0
  go_region_held3 (fun w' => w'.cell? ⟨b0, o0, none⟩ = some (.int .i64 z) ∧ w'.cell? ⟨w.heap.size, 0, none⟩ = some (.int .i64 t) ∧ w'.cell? ⟨w.heap.size, 1, none⟩ = some (.bool cl) ∧ w'.cell? ⟨w.heap.size, 2, none⟩ = some (.slice A n c)) (go_keep)
   ((go_at_call 138; go_must (refine (HCC.out _ hx0 hnn HSC.out).mono ?_; rintro e9 w9 ⟨rfl, b9⟩; replace Kq := jaa Kq b9; replace hgl0 := hgl0.next b9; replace x0 := (b9.cell (p := ⟨b0, o0, none⟩) (World.block_lt_of_cell? _ _ x0)).trans x0; replace P0 := P0.next b9; clear pd b9; have pd := P0.cell)))
  clear x0 pd P0
  have hgl1 := hgl0.next ((Below.refl w9.heap.size w9).alloc (Nat.le_refl _) (.cells #[u, v] 3))
  have D1 : Blk (w9.alloc (.cells #[u, v] 3)) w9.heap.size 3 (jb4 [u, v]) := Blk.at_ rfl
  have U1 := nB w9 (.cells #[u, v] 3)
  go_wp2_with fail
  refine (jdx (some ⟨w9.heap.size, 0, none⟩) 2 2 _ [u, v] _ (D1.sees (lo := 0) (s := 1) (n := 2) (Nat.zero_le _) rfl) (by omega) HLS.out hgl1).mono ?_
  rintro e9 w9 ⟨rfl, b9⟩
  go_wp2_with fail
  go_ret2
  exact ⟨jbq [u, v], by rw [HF.out.1]; rfl, HF.out.2, jaa Kq (jaa U1 b9)⟩
 ·exfalso
  rw [hk0] at hn hk
  cases hn
 ·rw [hk0] at ha hn hk ⊢
  clear hn hk
  go_enter Tryz.func96, Tryz.ntmps96
  go_upto_region 1 with fail
  generalize w.alloc _ = w1 at *
  have pc := P0.cell
  obtain ⟨R, hR⟩ : ∃ R, jeu ⟨t, cl, xs⟩ = R := ⟨_, rfl⟩
  have HR0 := Lib.hid (show jew ⟨t, cl, xs⟩ 12 l = R.bind fun rs => (jb9 rs l 36000).map jbq by
   show jgo ⟨t, cl, xs⟩ l = _
   unfold jgo
   rw [hR]
   cases R <;> rfl)
  have CC := joi t cl A n c xs w1 hx0 (by omega) (jb2 hg)
  unfold jeb at CC
  rw [hR] at CC
  have HC := Lib.hid CC
  have HR1 := Lib.hid hR
  clear hR CC hg hx0
  go_wp2_with fail
  refine HC.out.mono ?_
  clear HC pc
  cases R with
  | none =>
   rintro e9 w2 ⟨A2, c2, rfl, -, -, b2⟩
   have HR := Lib.hid (show jew ⟨t, cl, xs⟩ 12 l = none from HR0.out)
   go_wp2_with fail
   go_ret2
   rw [HR.out]
   exact ⟨_, rfl, fun q h => (by cases h), jaa K0 b2⟩
  | some rs =>
   obtain ⟨r1, r8, rp⟩ := jj7 HR1.out
   rintro e9 w2 ⟨A2, c2, rfl, X2, -, b2⟩
   replace X2 : SeesC w2 0 A2 rs.length rs := X2
   obtain ⟨O, hO⟩ : ∃ O, jb9 rs l 36000 = O := ⟨_, rfl⟩
   have hsm := jhv (cs := l) (limit := 36000) r8
   rw [hO] at hsm
   have HF0 := jo9 (C := jew ⟨t, cl, xs⟩ 12 l) (R := O) (by rw [HR0.out]; show (jb9 rs l 36000).map jbq = _; rw [hO])
   obtain ⟨L, hL⟩ : ∃ L, O.getD [] = L := ⟨_, rfl⟩
   obtain ⟨ok, hok⟩ : ∃ ok, O.isSome = ok := ⟨_, rfl⟩
   obtain ⟨N, hN⟩ : ∃ N, L.length = N := ⟨_, rfl⟩
   have C2 := jhu A2 rs.length c2 rs B m d l 36000 w2 X2 (by omega) (by omega) (fun x hx => by have := rp x hx; omega) (hy.next b2) (by omega)
   unfold jbj at C2
   rw [hO, hL, hok, hN] at C2
   rw [hL, hok] at HF0
   rw [hL, hN] at hsm
   obtain ⟨hs1, hs2⟩ := hsm
   obtain ⟨nr, hnr⟩ : ∃ nr, rs.length = nr := ⟨_, rfl⟩
   have HF := Lib.hid HF0
   have HB := Lib.hid hs2
   rw [hnr] at C2
   have HC2 := Lib.hid C2
   have HNR := Lib.hid hnr
   clear hO hL hok hN HF0 hs2 C2 hy hnr X2
   go_wp2_with fail
   rw [HNR.out]
   refine HC2.out.mono ?_
   rintro e9 w3 ⟨A3, c3, rfl, o3, b3⟩
   clear HC2
   go_wp2_with fail
   refine (jdx A3 N c3 _ L _ (Sees.of_own o3) (by omega) HB.out (hgl0.next (jaa b2 b3))).mono ?_
   rintro e9 w9 ⟨rfl, b9⟩
   go_wp2_with fail
   go_ret2
   exact ⟨jbq L, by rw [HF.out.1]; rfl, HF.out.2, jaa K0 (jaa (jaa b2 b3) b9)⟩
 ·exfalso
  rw [hk0] at hn hk
  cases hk
end Go.Proofs.YtflpcdffmpfdpaaGreatDoor
