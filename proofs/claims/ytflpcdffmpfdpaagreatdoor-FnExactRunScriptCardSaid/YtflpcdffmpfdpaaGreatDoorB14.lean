/- Joined texts of this proof: TxtC. -/
import Derived.Test.YtflpcdffmpfdpaaGreatDoorB13
import Derived.Test.YtflpcdffmpfdpaaGreatDoorB04
import Derived.Test.YtflpcdffmpfdpaaGreatDoorB02
set_option maxRecDepth 100000
set_option maxHeartbeats 8000000
namespace Go.Proofs.YtflpcdffmpfdpaaGreatDoor
open Go.RowKit
def jp5 (x : Card) : ByteArray := if x.finish = -1 then ⟨#[110, 111, 110, 101]⟩ else jbe x.finish
def jkl (x : Card) : ByteArray := jbe x.number ++ ⟨#[32, 115, 116, 97, 114, 116, 32]⟩ ++ jbe x.start ++ ⟨#[32, 102, 105, 110, 105, 115, 104, 32]⟩ ++ jp5 x
def punT (p : Punch) : ByteArray := ⟨#[32]⟩ ++ jbe p.code ++ ⟨#[64]⟩ ++ jbe p.time
def jcx (x : Card) : Nat → ByteArray
 | 0 => jkl x
 | k + 1 => match x.punches[k]? with | some p => jcx x k ++ punT p | none => jcx x k
def jc1 (x : Card) : ByteArray := jcx x x.punches.length
def jd1 (x : Card) : Option ByteArray := if jap x then some (jc1 x) else none
theorem jei {x : Card} {k : Nat} (h : k < x.punches.length) : jcx x (k + 1) = jcx x k ++ punT x.punches[k] := by
 rw [jcx, List.getElem?_eq_getElem h]
theorem jc3 {x : Card} (h : jap x = true) : (0 ≤ x.number ∧ x.number ≤ 9999) ∧ (0 ≤ x.start ∧ x.start ≤ 36000) ∧ (-1 ≤ x.finish ∧ x.finish ≤ 36000) ∧ x.punches.length ≤ 12 ∧ ∀ (k : Nat) (hk : k < x.punches.length), (0 ≤ x.punches[k].code ∧ x.punches[k].code ≤ 99) ∧ 0 ≤ x.punches[k].time ∧ x.punches[k].time ≤ 36000 := by
 unfold jap at h
 simp only [Bool.and_eq_true] at h
 obtain ⟨h1, h2⟩ := h
 obtain ⟨a, b, c, d⟩ := jj3 h1
 unfold inB at a b c
 simp only [Bool.and_eq_true, decide_eq_true_eq] at a b c
 refine ⟨by omega, by omega, by omega, d, fun k hk => ?_⟩
 have h3 := jhk h2 hk
 rw [jfq hk] at h3
 obtain ⟨p, q, -, -⟩ := jm7 h3
 unfold jda inB at p
 unfold inB at q
 simp only [Bool.and_eq_true, decide_eq_true_eq] at p q
 exact ⟨by omega, by omega⟩
theorem jll (A : Option Addr) (n c : Nat) (x : Card) (w : World) (hx : Sees w 0 2 A n (x.punches.flatMap Punch.enc)) (hg0 : jap x = true) (hg : Gl w) :
  Calls Tryz.prog 176 #[.agg #[x.number, x.start, x.finish, .slice A n c]] w fun e w' => e = .returned (.string (jc1 x)) ∧ Below w.heap.size w w' := by
 have HLN := Lib.hid (hx.count (by decide) (fun _ => rfl))
 obtain ⟨⟨hn0, hn1⟩, ⟨hs0, hs1⟩, ⟨hf0, hf1⟩, hp12, hbb⟩ := jc3 hg0
 have HB := Lib.hid hbb
 have hn12 : n ≤ 12 := by have := HLN.out; omega
 have hsa := ja2 (z := x.number) (by omega) (by omega)
 have hsb := ja2 (z := x.start) (by omega) (by omega)
 have hsf := ja2 (z := x.finish) (by omega) (by omega)
 have KB := nB w (.cells #[x.number, x.start, x.finish, .slice A n c] 106)
 have P := nP w [x.number, x.start, x.finish, .slice A n c] 106
 replace hg := hg.next KB
 clear hbb hp12 hg0
 go_enter Tryz.func176, Tryz.ntmps176
 by_cases f1 : x.finish = -1
 ·have g0 : (x.finish != -1) = false := by rw [f1]; rfl
  have HF := Lib.hid (show jp5 x = ⟨#[110, 111, 110, 101]⟩ by unfold jp5; rw [if_pos f1])
  clear f1
  go_upto_region 4 with fail
  generalize w.alloc _ = w1 at *
  have b2 := (Quiet.one w1).below w1.heap.size
  replace P := P.next b2
  replace KB := jaa KB b2
  replace hg := hg.next b2
  clear b2
  refine wp_region_held_drew (S := fun w' => w'.cell? ⟨w.heap.size, 0, none⟩ = some (.int .i64 x.number) ∧ w'.cell? ⟨w.heap.size, 1, none⟩ = some (.int .i64 x.start)) (by kernel_rfl) (by (try dsimp only); exact ⟨P.cell 0, P.cell 1⟩) (fun hH => ?_)
  generalize w1.drew = wz at *
  refine wQ 0 ?_
  refine wQ 1 ?_
  refine wQ 4 ?_
  refine wQ 5 ?_
  refine wQ 9 ?_
  refine wR (rs := [2]) (by kernel_rfl) (by simp) ?_
  refine aC rfl (fun K hK => ?_) aN
  go_simp
  refine (jbh x.number _ (by omega) (by omega) hg).mono ?_
  rintro e w9 ⟨rfl, b9⟩
  replace hg := hg.next b9
  replace P := P.next b9
  replace KB := jaa KB b9
  clear b9
  generalize w9 = wz at *
  obtain ⟨ta, hta⟩ : ∃ ta, jbe x.number = ta := ⟨_, rfl⟩
  have HTA := Lib.hid hta
  rw [hta] at hsa ⊢
  clear hta
  have g1 : ¬ 9223372036854775807 < ta.size + 7 := by omega
  go_wp2_with fail
  refine hK.out _ _ (by (try dsimp only); exact ⟨P.cell 0, P.cell 1⟩) (fun hH => ?_)
  clear hK K
  refine wQ 3 ?_
  refine wR (rs := [6]) (by kernel_rfl) (by simp) ?_
  refine aC rfl (fun K hK => ?_) aN
  go_simp
  refine (jbh x.start _ (by omega) (by omega) hg).mono ?_
  rintro e w9 ⟨rfl, b9⟩
  replace hg := hg.next b9
  replace P := P.next b9
  replace KB := jaa KB b9
  clear b9
  generalize w9 = wz at *
  obtain ⟨tb, htb⟩ : ∃ tb, jbe x.start = tb := ⟨_, rfl⟩
  have HTB := Lib.hid htb
  rw [htb] at hsb ⊢
  clear htb
  have g2 : ¬ 9223372036854775807 < ta.size + 7 + tb.size := by omega
  have g3 : ¬ 9223372036854775807 < ta.size + 7 + tb.size + 8 := by omega
  have g4 : ¬ 9223372036854775807 < ta.size + 7 + tb.size + 8 + 4 := by omega
  go_wp2_with fail
  refine hK.out _ _ (by (try dsimp only); exact ⟨P.cell 0, P.cell 1⟩) (fun hH => ?_)
  clear hK K
  refine wQ 7 ?_
  refine wQ 8 ?_
  refine wQ 10 ?_
  refine wQ 11 ?_
  refine wD (by kernel_rfl) ?_ _
  have HH := Lib.hid (show jcx x 0 = ta ++ ⟨#[32, 115, 116, 97, 114, 116, 32]⟩ ++ tb ++ ⟨#[32, 102, 105, 110, 105, 115, 104, 32]⟩ ++ ⟨#[110, 111, 110, 101]⟩ by show jkl x = _; unfold jkl; rw [HTA.out, HTB.out, HF.out])
  have hTz : (ta ++ ⟨#[32, 115, 116, 97, 114, 116, 32]⟩ ++ tb ++ ⟨#[32, 102, 105, 110, 105, 115, 104, 32]⟩ ++ ⟨#[110, 111, 110, 101]⟩).size ≤ 60 + 24 * 0 := by
   simp only [ByteArray.size_append]
   have y1 : (⟨#[32, 115, 116, 97, 114, 116, 32]⟩ : ByteArray).size = 7 := rfl
   have y2 : (⟨#[32, 102, 105, 110, 105, 115, 104, 32]⟩ : ByteArray).size = 8 := rfl
   have y3 : (⟨#[110, 111, 110, 101]⟩ : ByteArray).size = 4 := rfl
   omega
  clear hsa hsb g1 g2 g3 g4
  have pc := P.cell
  go_wp2_with fail
  clear pc
  go_loopw [4, 27] (fun tv iv wr => ∃ (k : Nat) (T : ByteArray), k ≤ n ∧ iv = .int .i64 (k : Int) ∧ tv = .string T ∧ Hid (jcx x k = T) ∧ T.size ≤ 60 + 24 * k ∧ Blk wr w.heap.size 106 [.int .i64 x.number, .int .i64 x.start, .int .i64 x.finish, .slice A n c] ∧ Gl wr ∧ Below w.heap.size w wr) (fun tv iv _ => n - (intOf iv).toNat)
  case atStart => exact ⟨0, _, Nat.zero_le _, rfl, rfl, Lib.hid HH.out, hTz, P, hg, KB⟩
  case round =>
   clear P hg KB
   obtain ⟨k, T, hk, rfl, rfl, HT, hTs, P, hg, KB⟩ := hrel
   by_cases hlt : k < n
   ·obtain ⟨b, off, rfl, hkx, y0, y1⟩ := hx.elem2 (fun _ => rfl) hlt
    have hbw : b < w.heap.size := World.block_lt_of_cell? w _ y0
    obtain ⟨⟨hc1, hc2⟩, ht1, ht2⟩ := HB.out k hkx
    obtain ⟨p, HP⟩ : ∃ p, Hid (x.punches[k] = p) := ⟨_, Lib.hid rfl⟩
    rw [HP.out] at y0 y1 hc1 hc2 ht1 ht2
    have hsa := ja2 (z := p.code) (by omega) (by omega)
    have hsb := ja2 (z := p.time) (by omega) (by omega)
    have hSS : ∀ w' : World, Below w.heap.size w w' → w'.cell? ⟨b, off + k * 2, none⟩ = some (.int .i64 p.code) ∧ w'.cell? ⟨b, off + k * 2 + 1, none⟩ = some (.int .i64 p.time) := fun w' hb => ⟨(hb.cell (p := ⟨b, off + k * 2, none⟩) hbw).trans y0, (hb.cell (p := ⟨b, off + k * 2 + 1, none⟩) hbw).trans y1⟩
    have hlti : (k : Int) < (n : Int) := by omega
    obtain ⟨x0, x1⟩ := hSS wr KB
    clear y0 y1
    have pc := P.cell
    have U := nB wr (.cells #[p.code, p.time] 188)
    have E := nP wr [p.code, p.time] 188
    replace P := P.next U
    replace KB := jaa KB U
    replace hg := hg.next U
    clear U
    go_upto_region 8 with fail
    clear pc x0 x1 hSS
    generalize wr.alloc _ = w1 at *
    generalize wr.heap.size = ge at *
    have b2 := (Quiet.one w1).below w1.heap.size
    replace P := P.next b2
    replace E := E.next b2
    replace hg := hg.next b2
    replace KB := jaa KB b2
    clear b2
    refine wp_region_held_drew (S := fun w' => w'.cell? ⟨ge, 0, none⟩ = some (.int .i64 p.code) ∧ w'.cell? ⟨ge, 1, none⟩ = some (.int .i64 p.time)) (by kernel_rfl) (by (try dsimp only); exact ⟨E.cell 0, E.cell 1⟩) (fun hH => ?_)
    generalize w1.drew = wz at *
    refine wQ 0 ?_
    refine wQ 1 ?_
    refine wQ 2 ?_
    refine wQ 6 ?_
    refine wQ 7 ?_
    refine wR (rs := [3]) (by kernel_rfl) (by simp) ?_
    refine aC rfl (fun K hK => ?_) aN
    go_simp
    refine (jbh p.code _ (by omega) (by omega) hg).mono ?_
    rintro e w9 ⟨rfl, b9⟩
    replace P := P.next b9
    replace E := E.next b9
    replace hg := hg.next b9
    replace KB := jaa KB b9
    clear b9
    generalize w9 = wz at *
    obtain ⟨ta, hta⟩ : ∃ ta, jbe p.code = ta := ⟨_, rfl⟩
    have HTA := Lib.hid hta
    rw [hta] at hsa ⊢
    clear hta
    have g2 : ¬ 9223372036854775807 < 1 + ta.size := by omega
    have g3 : ¬ 9223372036854775807 < 1 + ta.size + 1 := by omega
    go_wp2_with fail
    refine hK.out _ _ (by (try dsimp only); exact ⟨E.cell 0, E.cell 1⟩) (fun hH => ?_)
    clear hK K
    refine wQ 4 ?_
    refine wQ 5 ?_
    refine wR (rs := [8]) (by kernel_rfl) (by simp) ?_
    refine aC rfl (fun K hK => ?_) aN
    go_simp
    refine (jbh p.time _ (by omega) (by omega) hg).mono ?_
    rintro e w9 ⟨rfl, b9⟩
    replace P := P.next b9
    replace E := E.next b9
    replace hg := hg.next b9
    replace KB := jaa KB b9
    clear b9
    generalize w9 = wz at *
    obtain ⟨tb, htb⟩ : ∃ tb, jbe p.time = tb := ⟨_, rfl⟩
    have HTB := Lib.hid htb
    rw [htb] at hsb ⊢
    clear htb
    have g4 : ¬ 9223372036854775807 < 1 + ta.size + 1 + tb.size := by omega
    have g5 : ¬ 9223372036854775807 < T.size + (1 + ta.size + 1 + tb.size) := by omega
    go_wp2_with fail
    refine hK.out _ _ (by (try dsimp only); exact ⟨E.cell 0, E.cell 1⟩) (fun hH => ?_)
    clear hK K
    refine wQ 9 ?_
    refine wQ 10 ?_
    refine wQ 11 ?_
    refine wD (by kernel_rfl) ?_ _
    have HN := Lib.hid (show jcx x (k + 1) = T ++ (⟨#[32]⟩ ++ ta ++ ⟨#[64]⟩ ++ tb) by
     rw [jei (by rw [HLN.out]; exact hlt), HT.out, HP.out]
     unfold punT
     rw [HTA.out, HTB.out])
    have hT2 : (T ++ (⟨#[32]⟩ ++ ta ++ ⟨#[64]⟩ ++ tb)).size ≤ 60 + 24 * (k + 1) := by
     simp only [ByteArray.size_append]
     have y1 : (⟨#[32]⟩ : ByteArray).size = 1 := rfl
     have y2 : (⟨#[64]⟩ : ByteArray).size = 1 := rfl
     omega
    go_wp2_with fail
    go_roundw
    case rel => exact ⟨k + 1, _, by omega, by go_num, rfl, HN, hT2, P, hg, KB⟩
    case measure => simp [intOf]; omega
   ·obtain rfl : k = n := by omega
    have hlti : ¬ (k : Int) < (k : Int) := by omega
    have pc := P.cell
    have HE := Lib.hid (show jc1 x = T by unfold jc1; rw [HLN.out, HT.out])
    go_wp2_with fail
    go_ret
    rw [HE.out]
    exact ⟨rfl, KB⟩
 ·have g0 : (x.finish != -1) = true := bne_iff_ne.2 f1
  have HF0 := Lib.hid (show jp5 x = jbe x.finish by unfold jp5; rw [if_neg f1])
  clear f1
  go_wp2_with fail
  generalize w.alloc _ = w0 at *
  refine (jbh x.finish w0 (by omega) (by omega) hg).mono ?_
  rintro e w1 ⟨rfl, b9⟩
  replace hg := hg.next b9
  replace P := P.next b9
  replace KB := jaa KB b9
  clear b9
  obtain ⟨tf, htf⟩ : ∃ tf, jbe x.finish = tf := ⟨_, rfl⟩
  have HF := Lib.hid (HF0.out.trans htf)
  rw [htf] at hsf ⊢
  clear htf HF0
  go_upto_region 4 with fail
  have b2 := (Quiet.one w1).below w1.heap.size
  replace P := P.next b2
  replace KB := jaa KB b2
  replace hg := hg.next b2
  clear b2
  refine wp_region_held_drew (S := fun w' => w'.cell? ⟨w.heap.size, 0, none⟩ = some (.int .i64 x.number) ∧ w'.cell? ⟨w.heap.size, 1, none⟩ = some (.int .i64 x.start)) (by kernel_rfl) (by (try dsimp only); exact ⟨P.cell 0, P.cell 1⟩) (fun hH => ?_)
  generalize w1.drew = wz at *
  refine wQ 0 ?_
  refine wQ 1 ?_
  refine wQ 4 ?_
  refine wQ 5 ?_
  refine wQ 9 ?_
  refine wR (rs := [2]) (by kernel_rfl) (by simp) ?_
  refine aC rfl (fun K hK => ?_) aN
  go_simp
  refine (jbh x.number _ (by omega) (by omega) hg).mono ?_
  rintro e w9 ⟨rfl, b9⟩
  replace hg := hg.next b9
  replace P := P.next b9
  replace KB := jaa KB b9
  clear b9
  generalize w9 = wz at *
  obtain ⟨ta, hta⟩ : ∃ ta, jbe x.number = ta := ⟨_, rfl⟩
  have HTA := Lib.hid hta
  rw [hta] at hsa ⊢
  clear hta
  have g1 : ¬ 9223372036854775807 < ta.size + 7 := by omega
  go_wp2_with fail
  refine hK.out _ _ (by (try dsimp only); exact ⟨P.cell 0, P.cell 1⟩) (fun hH => ?_)
  clear hK K
  refine wQ 3 ?_
  refine wR (rs := [6]) (by kernel_rfl) (by simp) ?_
  refine aC rfl (fun K hK => ?_) aN
  go_simp
  refine (jbh x.start _ (by omega) (by omega) hg).mono ?_
  rintro e w9 ⟨rfl, b9⟩
  replace hg := hg.next b9
  replace P := P.next b9
  replace KB := jaa KB b9
  clear b9
  generalize w9 = wz at *
  obtain ⟨tb, htb⟩ : ∃ tb, jbe x.start = tb := ⟨_, rfl⟩
  have HTB := Lib.hid htb
  rw [htb] at hsb ⊢
  clear htb
  have g2 : ¬ 9223372036854775807 < ta.size + 7 + tb.size := by omega
  have g3 : ¬ 9223372036854775807 < ta.size + 7 + tb.size + 8 := by omega
  have g4 : ¬ 9223372036854775807 < ta.size + 7 + tb.size + 8 + tf.size := by omega
  go_wp2_with fail
  refine hK.out _ _ (by (try dsimp only); exact ⟨P.cell 0, P.cell 1⟩) (fun hH => ?_)
  clear hK K
  refine wQ 7 ?_
  refine wQ 8 ?_
  refine wQ 10 ?_
  refine wQ 11 ?_
  refine wD (by kernel_rfl) ?_ _
  have HH := Lib.hid (show jcx x 0 = ta ++ ⟨#[32, 115, 116, 97, 114, 116, 32]⟩ ++ tb ++ ⟨#[32, 102, 105, 110, 105, 115, 104, 32]⟩ ++ tf by show jkl x = _; unfold jkl; rw [HTA.out, HTB.out, HF.out])
  have hTz : (ta ++ ⟨#[32, 115, 116, 97, 114, 116, 32]⟩ ++ tb ++ ⟨#[32, 102, 105, 110, 105, 115, 104, 32]⟩ ++ tf).size ≤ 60 + 24 * 0 := by
   simp only [ByteArray.size_append]
   have y1 : (⟨#[32, 115, 116, 97, 114, 116, 32]⟩ : ByteArray).size = 7 := rfl
   have y2 : (⟨#[32, 102, 105, 110, 105, 115, 104, 32]⟩ : ByteArray).size = 8 := rfl
   skip
   omega
  clear hsa hsb g1 g2 g3 g4
  have pc := P.cell
  go_wp2_with fail
  clear pc
  go_loopw [4, 27] (fun tv iv wr => ∃ (k : Nat) (T : ByteArray), k ≤ n ∧ iv = .int .i64 (k : Int) ∧ tv = .string T ∧ Hid (jcx x k = T) ∧ T.size ≤ 60 + 24 * k ∧ Blk wr w.heap.size 106 [.int .i64 x.number, .int .i64 x.start, .int .i64 x.finish, .slice A n c] ∧ Gl wr ∧ Below w.heap.size w wr) (fun tv iv _ => n - (intOf iv).toNat)
  case atStart => exact ⟨0, _, Nat.zero_le _, rfl, rfl, Lib.hid HH.out, hTz, P, hg, KB⟩
  case round =>
   clear P hg KB
   obtain ⟨k, T, hk, rfl, rfl, HT, hTs, P, hg, KB⟩ := hrel
   by_cases hlt : k < n
   ·obtain ⟨b, off, rfl, hkx, y0, y1⟩ := hx.elem2 (fun _ => rfl) hlt
    have hbw : b < w.heap.size := World.block_lt_of_cell? w _ y0
    obtain ⟨⟨hc1, hc2⟩, ht1, ht2⟩ := HB.out k hkx
    obtain ⟨p, HP⟩ : ∃ p, Hid (x.punches[k] = p) := ⟨_, Lib.hid rfl⟩
    rw [HP.out] at y0 y1 hc1 hc2 ht1 ht2
    have hsa := ja2 (z := p.code) (by omega) (by omega)
    have hsb := ja2 (z := p.time) (by omega) (by omega)
    have hSS : ∀ w' : World, Below w.heap.size w w' → w'.cell? ⟨b, off + k * 2, none⟩ = some (.int .i64 p.code) ∧ w'.cell? ⟨b, off + k * 2 + 1, none⟩ = some (.int .i64 p.time) := fun w' hb => ⟨(hb.cell (p := ⟨b, off + k * 2, none⟩) hbw).trans y0, (hb.cell (p := ⟨b, off + k * 2 + 1, none⟩) hbw).trans y1⟩
    have hlti : (k : Int) < (n : Int) := by omega
    obtain ⟨x0, x1⟩ := hSS wr KB
    clear y0 y1
    have pc := P.cell
    have U := nB wr (.cells #[p.code, p.time] 188)
    have E := nP wr [p.code, p.time] 188
    replace P := P.next U
    replace KB := jaa KB U
    replace hg := hg.next U
    clear U
    go_upto_region 8 with fail
    clear pc x0 x1 hSS
    generalize wr.alloc _ = w1 at *
    generalize wr.heap.size = ge at *
    have b2 := (Quiet.one w1).below w1.heap.size
    replace P := P.next b2
    replace E := E.next b2
    replace hg := hg.next b2
    replace KB := jaa KB b2
    clear b2
    refine wp_region_held_drew (S := fun w' => w'.cell? ⟨ge, 0, none⟩ = some (.int .i64 p.code) ∧ w'.cell? ⟨ge, 1, none⟩ = some (.int .i64 p.time)) (by kernel_rfl) (by (try dsimp only); exact ⟨E.cell 0, E.cell 1⟩) (fun hH => ?_)
    generalize w1.drew = wz at *
    refine wQ 0 ?_
    refine wQ 1 ?_
    refine wQ 2 ?_
    refine wQ 6 ?_
    refine wQ 7 ?_
    refine wR (rs := [3]) (by kernel_rfl) (by simp) ?_
    refine aC rfl (fun K hK => ?_) aN
    go_simp
    refine (jbh p.code _ (by omega) (by omega) hg).mono ?_
    rintro e w9 ⟨rfl, b9⟩
    replace P := P.next b9
    replace E := E.next b9
    replace hg := hg.next b9
    replace KB := jaa KB b9
    clear b9
    generalize w9 = wz at *
    obtain ⟨ta, hta⟩ : ∃ ta, jbe p.code = ta := ⟨_, rfl⟩
    have HTA := Lib.hid hta
    rw [hta] at hsa ⊢
    clear hta
    have g2 : ¬ 9223372036854775807 < 1 + ta.size := by omega
    have g3 : ¬ 9223372036854775807 < 1 + ta.size + 1 := by omega
    go_wp2_with fail
    refine hK.out _ _ (by (try dsimp only); exact ⟨E.cell 0, E.cell 1⟩) (fun hH => ?_)
    clear hK K
    refine wQ 4 ?_
    refine wQ 5 ?_
    refine wR (rs := [8]) (by kernel_rfl) (by simp) ?_
    refine aC rfl (fun K hK => ?_) aN
    go_simp
    refine (jbh p.time _ (by omega) (by omega) hg).mono ?_
    rintro e w9 ⟨rfl, b9⟩
    replace P := P.next b9
    replace E := E.next b9
    replace hg := hg.next b9
    replace KB := jaa KB b9
    clear b9
    generalize w9 = wz at *
    obtain ⟨tb, htb⟩ : ∃ tb, jbe p.time = tb := ⟨_, rfl⟩
    have HTB := Lib.hid htb
    rw [htb] at hsb ⊢
    clear htb
    have g4 : ¬ 9223372036854775807 < 1 + ta.size + 1 + tb.size := by omega
    have g5 : ¬ 9223372036854775807 < T.size + (1 + ta.size + 1 + tb.size) := by omega
    go_wp2_with fail
    refine hK.out _ _ (by (try dsimp only); exact ⟨E.cell 0, E.cell 1⟩) (fun hH => ?_)
    clear hK K
    refine wQ 9 ?_
    refine wQ 10 ?_
    refine wQ 11 ?_
    refine wD (by kernel_rfl) ?_ _
    have HN := Lib.hid (show jcx x (k + 1) = T ++ (⟨#[32]⟩ ++ ta ++ ⟨#[64]⟩ ++ tb) by
     rw [jei (by rw [HLN.out]; exact hlt), HT.out, HP.out]
     unfold punT
     rw [HTA.out, HTB.out])
    have hT2 : (T ++ (⟨#[32]⟩ ++ ta ++ ⟨#[64]⟩ ++ tb)).size ≤ 60 + 24 * (k + 1) := by
     simp only [ByteArray.size_append]
     have y1 : (⟨#[32]⟩ : ByteArray).size = 1 := rfl
     have y2 : (⟨#[64]⟩ : ByteArray).size = 1 := rfl
     omega
    go_wp2_with fail
    go_roundw
    case rel => exact ⟨k + 1, _, by omega, by go_num, rfl, HN, hT2, P, hg, KB⟩
    case measure => simp [intOf]; omega
   ·obtain rfl : k = n := by omega
    have hlti : ¬ (k : Int) < (k : Int) := by omega
    have pc := P.cell
    have HE := Lib.hid (show jc1 x = T by unfold jc1; rw [HLN.out, HT.out])
    go_wp2_with fail
    go_ret
    rw [HE.out]
    exact ⟨rfl, KB⟩
theorem jmx (A : Option Addr) (n c : Nat) (x : Card) (w : World) (hx : Sees w 0 2 A n (x.punches.flatMap Punch.enc)) (hg0 : jap x = true) :
  Calls Tryz.prog 166 #[.agg #[x.number, x.start, x.finish, .slice A n c]] w fun e w' => e = .returned (.string (jc1 x)) ∧ Below w.heap.size w w' := by
 have HLN := Lib.hid (hx.count (by decide) (fun _ => rfl))
 obtain ⟨⟨hn0, hn1⟩, ⟨hs0, hs1⟩, ⟨hf0, hf1⟩, hp12, hbb⟩ := jc3 hg0
 have HB := Lib.hid hbb
 have hn12 : n ≤ 12 := by have := HLN.out; omega
 have hsa := ja2 (z := x.number) (by omega) (by omega)
 have hsb := ja2 (z := x.start) (by omega) (by omega)
 have hsf := ja2 (z := x.finish) (by omega) (by omega)
 have KB := nB w (.cells #[x.number, x.start, x.finish, .slice A n c] 106)
 have P := nP w [x.number, x.start, x.finish, .slice A n c] 106
 clear hbb hp12 hg0
 go_enter Tryz.func166, Tryz.ntmps166
 go_upto_region 1 with fail
 generalize w.alloc _ = w1 at *
 have b2 := (Quiet.one w1).below w1.heap.size
 replace P := P.next b2
 replace KB := jaa KB b2
 clear b2
 refine wp_region_held_drew (S := fun w' => w'.cell? ⟨w.heap.size, 0, none⟩ = some (.int .i64 x.number) ∧ w'.cell? ⟨w.heap.size, 1, none⟩ = some (.int .i64 x.start)) (by kernel_rfl) (by (try dsimp only); exact ⟨P.cell 0, P.cell 1⟩) (fun hH => ?_)
 generalize w1.drew = wz at *
 refine wQ 0 ?_
 refine wQ 1 ?_
 refine wQ 4 ?_
 refine wQ 5 ?_
 refine wR (rs := [2]) (by kernel_rfl) (by simp) ?_
 refine aC rfl (fun K hK => ?_) aN
 go_simp
 refine (jau x.number _ (by omega) (by omega)).mono ?_
 rintro e w9 ⟨rfl, q9⟩
 have b9 := q9.below wz.heap.size
 clear q9
 replace P := P.next b9
 replace KB := jaa KB b9
 clear b9
 generalize w9 = wz at *
 obtain ⟨ta, hta⟩ : ∃ ta, jbe x.number = ta := ⟨_, rfl⟩
 have HTA := Lib.hid hta
 rw [hta] at hsa ⊢
 clear hta
 have g1 : ¬ 9223372036854775807 < ta.size + 7 := by omega
 go_wp2_with fail
 refine hK.out _ _ (by (try dsimp only); exact ⟨P.cell 0, P.cell 1⟩) (fun hH => ?_)
 clear hK K
 refine wQ 3 ?_
 refine wR (rs := [6]) (by kernel_rfl) (by simp) ?_
 refine aC rfl (fun K hK => ?_) aN
 go_simp
 refine (jau x.start _ (by omega) (by omega)).mono ?_
 rintro e w9 ⟨rfl, q9⟩
 have b9 := q9.below wz.heap.size
 clear q9
 replace P := P.next b9
 replace KB := jaa KB b9
 clear b9
 generalize w9 = wz at *
 obtain ⟨tb, htb⟩ : ∃ tb, jbe x.start = tb := ⟨_, rfl⟩
 have HTB := Lib.hid htb
 rw [htb] at hsb ⊢
 clear htb
 have g2 : ¬ 9223372036854775807 < ta.size + 7 + tb.size := by omega
 have g3 : ¬ 9223372036854775807 < ta.size + 7 + tb.size + 8 := by omega
 skip
 go_wp2_with fail
 refine hK.out _ _ (by (try dsimp only); exact ⟨P.cell 0, P.cell 1⟩) (fun hH => ?_)
 clear hK K
 refine wQ 7 ?_
 refine wQ 8 ?_
 refine wQ 9 ?_
 refine wD (by kernel_rfl) ?_ _
 by_cases f1 : x.finish = -1
 ·have g0 : (x.finish == -1) = true := beq_iff_eq.2 f1
  have HF := Lib.hid (show jp5 x = ⟨#[110, 111, 110, 101]⟩ by unfold jp5; rw [if_pos f1])
  clear f1
  have g4 : ¬ 9223372036854775807 < ta.size + 7 + tb.size + 8 + 4 := by omega
  have pc := P.cell
  go_wp2_with fail
  clear pc
  have HH := Lib.hid (show jcx x 0 = ta ++ ⟨#[32, 115, 116, 97, 114, 116, 32]⟩ ++ tb ++ ⟨#[32, 102, 105, 110, 105, 115, 104, 32]⟩ ++ ⟨#[110, 111, 110, 101]⟩ by show jkl x = _; unfold jkl; rw [HTA.out, HTB.out, HF.out])
  have hTz : (ta ++ ⟨#[32, 115, 116, 97, 114, 116, 32]⟩ ++ tb ++ ⟨#[32, 102, 105, 110, 105, 115, 104, 32]⟩ ++ ⟨#[110, 111, 110, 101]⟩).size ≤ 60 + 24 * 0 := by
   simp only [ByteArray.size_append]
   have y1 : (⟨#[32, 115, 116, 97, 114, 116, 32]⟩ : ByteArray).size = 7 := rfl
   have y2 : (⟨#[32, 102, 105, 110, 105, 115, 104, 32]⟩ : ByteArray).size = 8 := rfl
   have y3 : (⟨#[110, 111, 110, 101]⟩ : ByteArray).size = 4 := rfl
   omega
  clear hsa hsb g1 g2 g3 g4
  go_loopw [3, 4] (fun tv iv wr => ∃ (k : Nat) (T : ByteArray), k ≤ n ∧ iv = .int .i64 (k : Int) ∧ tv = .string T ∧ Hid (jcx x k = T) ∧ T.size ≤ 60 + 24 * k ∧ Blk wr w.heap.size 106 [.int .i64 x.number, .int .i64 x.start, .int .i64 x.finish, .slice A n c] ∧  Below w.heap.size w wr) (fun tv iv _ => n - (intOf iv).toNat)
  case atStart => exact ⟨0, _, Nat.zero_le _, rfl, rfl, Lib.hid HH.out, hTz, P,  KB⟩
  case round =>
   clear P  KB
   obtain ⟨k, T, hk, rfl, rfl, HT, hTs, P, KB⟩ := hrel
   by_cases hlt : k < n
   ·obtain ⟨b, off, rfl, hkx, y0, y1⟩ := hx.elem2 (fun _ => rfl) hlt
    have hbw : b < w.heap.size := World.block_lt_of_cell? w _ y0
    obtain ⟨⟨hc1, hc2⟩, ht1, ht2⟩ := HB.out k hkx
    obtain ⟨p, HP⟩ : ∃ p, Hid (x.punches[k] = p) := ⟨_, Lib.hid rfl⟩
    rw [HP.out] at y0 y1 hc1 hc2 ht1 ht2
    have hsa := ja2 (z := p.code) (by omega) (by omega)
    have hsb := ja2 (z := p.time) (by omega) (by omega)
    have hSS : ∀ w' : World, Below w.heap.size w w' → w'.cell? ⟨b, off + k * 2, none⟩ = some (.int .i64 p.code) ∧ w'.cell? ⟨b, off + k * 2 + 1, none⟩ = some (.int .i64 p.time) := fun w' hb => ⟨(hb.cell (p := ⟨b, off + k * 2, none⟩) hbw).trans y0, (hb.cell (p := ⟨b, off + k * 2 + 1, none⟩) hbw).trans y1⟩
    have hlti : (k : Int) < (n : Int) := by omega
    obtain ⟨x0, x1⟩ := hSS wr KB
    clear y0 y1
    have pc := P.cell
    go_upto_region 8 with fail
    clear pc x0 x1
    have b2 := (Quiet.one wr).below wr.heap.size
    replace P := P.next b2
    replace KB := jaa KB b2
    clear b2
    have g1 : ¬ 9223372036854775807 < T.size + 1 := by omega
    refine wp_region_held_drew (S := fun w' => w'.cell? ⟨w.heap.size, 3, none⟩ = some (.slice (some ⟨b, off, none⟩) n c) ∧ w'.cell? ⟨b, off + k * 2, none⟩ = some (.int .i64 p.code) ∧ w'.cell? ⟨b, off + k * 2 + 1, none⟩ = some (.int .i64 p.time)) (by kernel_rfl) (by (try dsimp only); exact ⟨P.cell 3, hSS _ KB⟩) (fun hH => ?_)
    generalize wr.drew = wz at *
    refine wQ 0 ?_
    refine wQ 1 ?_
    refine wQ 2 ?_
    refine wQ 3 ?_
    refine wQ 4 ?_
    refine wQ 5 ?_
    refine wQ 6 ?_
    refine wQ 7 ?_
    refine wQ 11 ?_
    refine wQ 12 ?_
    refine wQ 13 ?_
    refine wQ 14 ?_
    refine wQ 15 ?_
    refine wQ 16 ?_
    refine wR (rs := [8]) (by kernel_rfl) (by simp) ?_
    refine aC rfl (fun K hK => ?_) aN
    go_simp
    refine (jau p.code _ (by omega) (by omega)).mono ?_
    rintro e w9 ⟨rfl, q9⟩
    have b9 := q9.below wz.heap.size
    replace P := P.next b9
    replace KB := jaa KB b9
    clear b9 q9
    generalize w9 = wz at *
    obtain ⟨ta, hta⟩ : ∃ ta, jbe p.code = ta := ⟨_, rfl⟩
    have HTA := Lib.hid hta
    rw [hta] at hsa ⊢
    clear hta
    have g2 : ¬ 9223372036854775807 < T.size + 1 + ta.size := by omega
    have g3 : ¬ 9223372036854775807 < T.size + 1 + ta.size + 1 := by omega
    go_wp2_with fail
    refine hK.out _ _ (by (try dsimp only); exact ⟨P.cell 3, hSS _ KB⟩) (fun hH => ?_)
    clear hK K
    refine wQ 9 ?_
    refine wQ 10 ?_
    refine wR (rs := [17]) (by kernel_rfl) (by simp) ?_
    refine aC rfl (fun K hK => ?_) aN
    go_simp
    refine (jau p.time _ (by omega) (by omega)).mono ?_
    rintro e w9 ⟨rfl, q9⟩
    have b9 := q9.below wz.heap.size
    replace P := P.next b9
    replace KB := jaa KB b9
    clear b9 q9
    generalize w9 = wz at *
    obtain ⟨tb, htb⟩ : ∃ tb, jbe p.time = tb := ⟨_, rfl⟩
    have HTB := Lib.hid htb
    rw [htb] at hsb ⊢
    clear htb
    have g4 : ¬ 9223372036854775807 < T.size + 1 + ta.size + 1 + tb.size := by omega
    go_wp2_with fail
    refine hK.out _ _ (by (try dsimp only); exact ⟨P.cell 3, hSS _ KB⟩) (fun hH => ?_)
    clear hK K
    refine wQ 18 ?_
    refine wQ 19 ?_
    refine wD (by kernel_rfl) ?_ _
    have HN := Lib.hid (show jcx x (k + 1) = T ++ ⟨#[32]⟩ ++ ta ++ ⟨#[64]⟩ ++ tb by
     rw [jei (by rw [HLN.out]; exact hlt), HT.out, HP.out]
     unfold punT
     rw [HTA.out, HTB.out]
     simp only [ByteArray.append_assoc])
    have hT2 : (T ++ ⟨#[32]⟩ ++ ta ++ ⟨#[64]⟩ ++ tb).size ≤ 60 + 24 * (k + 1) := by
     simp only [ByteArray.size_append]
     have y1 : (⟨#[32]⟩ : ByteArray).size = 1 := rfl
     have y2 : (⟨#[64]⟩ : ByteArray).size = 1 := rfl
     omega
    go_wp2_with fail
    go_roundw
    case rel => exact ⟨k + 1, _, by omega, by go_num, rfl, HN, hT2, P,  KB⟩
    case measure => simp [intOf]; omega
   ·obtain rfl : k = n := by omega
    have hlti : ¬ (k : Int) < (k : Int) := by omega
    have pc := P.cell
    have HE := Lib.hid (show jc1 x = T by unfold jc1; rw [HLN.out, HT.out])
    go_wp2_with fail
    go_ret
    rw [HE.out]
    exact ⟨rfl, KB⟩
 ·have g0 : (x.finish == -1) = false := beq_eq_false_iff_ne.2 f1
  have HF0 := Lib.hid (show jp5 x = jbe x.finish by unfold jp5; rw [if_neg f1])
  clear f1
  have pc := P.cell
  go_wp2_with fail
  refine (jau x.finish _ (by omega) (by omega)).mono ?_
  rintro e w9 ⟨rfl, q9⟩
  have b9 := q9.below wz.heap.size
  replace P := P.next b9
  replace KB := jaa KB b9
  clear b9 q9 pc
  obtain ⟨tf, htf⟩ : ∃ tf, jbe x.finish = tf := ⟨_, rfl⟩
  have HF := Lib.hid (HF0.out.trans htf)
  rw [htf] at hsf ⊢
  clear htf HF0
  have g4 : ¬ 9223372036854775807 < ta.size + 7 + tb.size + 8 + tf.size := by omega
  have pc := P.cell
  go_wp2_with fail
  clear pc
  have HH := Lib.hid (show jcx x 0 = ta ++ ⟨#[32, 115, 116, 97, 114, 116, 32]⟩ ++ tb ++ ⟨#[32, 102, 105, 110, 105, 115, 104, 32]⟩ ++ tf by show jkl x = _; unfold jkl; rw [HTA.out, HTB.out, HF.out])
  have hTz : (ta ++ ⟨#[32, 115, 116, 97, 114, 116, 32]⟩ ++ tb ++ ⟨#[32, 102, 105, 110, 105, 115, 104, 32]⟩ ++ tf).size ≤ 60 + 24 * 0 := by
   simp only [ByteArray.size_append]
   have y1 : (⟨#[32, 115, 116, 97, 114, 116, 32]⟩ : ByteArray).size = 7 := rfl
   have y2 : (⟨#[32, 102, 105, 110, 105, 115, 104, 32]⟩ : ByteArray).size = 8 := rfl
   skip
   omega
  clear hsa hsb g1 g2 g3 g4
  go_loopw [3, 4] (fun tv iv wr => ∃ (k : Nat) (T : ByteArray), k ≤ n ∧ iv = .int .i64 (k : Int) ∧ tv = .string T ∧ Hid (jcx x k = T) ∧ T.size ≤ 60 + 24 * k ∧ Blk wr w.heap.size 106 [.int .i64 x.number, .int .i64 x.start, .int .i64 x.finish, .slice A n c] ∧  Below w.heap.size w wr) (fun tv iv _ => n - (intOf iv).toNat)
  case atStart => exact ⟨0, _, Nat.zero_le _, rfl, rfl, Lib.hid HH.out, hTz, P,  KB⟩
  case round =>
   clear P  KB
   obtain ⟨k, T, hk, rfl, rfl, HT, hTs, P, KB⟩ := hrel
   by_cases hlt : k < n
   ·obtain ⟨b, off, rfl, hkx, y0, y1⟩ := hx.elem2 (fun _ => rfl) hlt
    have hbw : b < w.heap.size := World.block_lt_of_cell? w _ y0
    obtain ⟨⟨hc1, hc2⟩, ht1, ht2⟩ := HB.out k hkx
    obtain ⟨p, HP⟩ : ∃ p, Hid (x.punches[k] = p) := ⟨_, Lib.hid rfl⟩
    rw [HP.out] at y0 y1 hc1 hc2 ht1 ht2
    have hsa := ja2 (z := p.code) (by omega) (by omega)
    have hsb := ja2 (z := p.time) (by omega) (by omega)
    have hSS : ∀ w' : World, Below w.heap.size w w' → w'.cell? ⟨b, off + k * 2, none⟩ = some (.int .i64 p.code) ∧ w'.cell? ⟨b, off + k * 2 + 1, none⟩ = some (.int .i64 p.time) := fun w' hb => ⟨(hb.cell (p := ⟨b, off + k * 2, none⟩) hbw).trans y0, (hb.cell (p := ⟨b, off + k * 2 + 1, none⟩) hbw).trans y1⟩
    have hlti : (k : Int) < (n : Int) := by omega
    obtain ⟨x0, x1⟩ := hSS wr KB
    clear y0 y1
    have pc := P.cell
    go_upto_region 8 with fail
    clear pc x0 x1
    have b2 := (Quiet.one wr).below wr.heap.size
    replace P := P.next b2
    replace KB := jaa KB b2
    clear b2
    have g1 : ¬ 9223372036854775807 < T.size + 1 := by omega
    refine wp_region_held_drew (S := fun w' => w'.cell? ⟨w.heap.size, 3, none⟩ = some (.slice (some ⟨b, off, none⟩) n c) ∧ w'.cell? ⟨b, off + k * 2, none⟩ = some (.int .i64 p.code) ∧ w'.cell? ⟨b, off + k * 2 + 1, none⟩ = some (.int .i64 p.time)) (by kernel_rfl) (by (try dsimp only); exact ⟨P.cell 3, hSS _ KB⟩) (fun hH => ?_)
    generalize wr.drew = wz at *
    refine wQ 0 ?_
    refine wQ 1 ?_
    refine wQ 2 ?_
    refine wQ 3 ?_
    refine wQ 4 ?_
    refine wQ 5 ?_
    refine wQ 6 ?_
    refine wQ 7 ?_
    refine wQ 11 ?_
    refine wQ 12 ?_
    refine wQ 13 ?_
    refine wQ 14 ?_
    refine wQ 15 ?_
    refine wQ 16 ?_
    refine wR (rs := [8]) (by kernel_rfl) (by simp) ?_
    refine aC rfl (fun K hK => ?_) aN
    go_simp
    refine (jau p.code _ (by omega) (by omega)).mono ?_
    rintro e w9 ⟨rfl, q9⟩
    have b9 := q9.below wz.heap.size
    replace P := P.next b9
    replace KB := jaa KB b9
    clear b9 q9
    generalize w9 = wz at *
    obtain ⟨ta, hta⟩ : ∃ ta, jbe p.code = ta := ⟨_, rfl⟩
    have HTA := Lib.hid hta
    rw [hta] at hsa ⊢
    clear hta
    have g2 : ¬ 9223372036854775807 < T.size + 1 + ta.size := by omega
    have g3 : ¬ 9223372036854775807 < T.size + 1 + ta.size + 1 := by omega
    go_wp2_with fail
    refine hK.out _ _ (by (try dsimp only); exact ⟨P.cell 3, hSS _ KB⟩) (fun hH => ?_)
    clear hK K
    refine wQ 9 ?_
    refine wQ 10 ?_
    refine wR (rs := [17]) (by kernel_rfl) (by simp) ?_
    refine aC rfl (fun K hK => ?_) aN
    go_simp
    refine (jau p.time _ (by omega) (by omega)).mono ?_
    rintro e w9 ⟨rfl, q9⟩
    have b9 := q9.below wz.heap.size
    replace P := P.next b9
    replace KB := jaa KB b9
    clear b9 q9
    generalize w9 = wz at *
    obtain ⟨tb, htb⟩ : ∃ tb, jbe p.time = tb := ⟨_, rfl⟩
    have HTB := Lib.hid htb
    rw [htb] at hsb ⊢
    clear htb
    have g4 : ¬ 9223372036854775807 < T.size + 1 + ta.size + 1 + tb.size := by omega
    go_wp2_with fail
    refine hK.out _ _ (by (try dsimp only); exact ⟨P.cell 3, hSS _ KB⟩) (fun hH => ?_)
    clear hK K
    refine wQ 18 ?_
    refine wQ 19 ?_
    refine wD (by kernel_rfl) ?_ _
    have HN := Lib.hid (show jcx x (k + 1) = T ++ ⟨#[32]⟩ ++ ta ++ ⟨#[64]⟩ ++ tb by
     rw [jei (by rw [HLN.out]; exact hlt), HT.out, HP.out]
     unfold punT
     rw [HTA.out, HTB.out]
     simp only [ByteArray.append_assoc])
    have hT2 : (T ++ ⟨#[32]⟩ ++ ta ++ ⟨#[64]⟩ ++ tb).size ≤ 60 + 24 * (k + 1) := by
     simp only [ByteArray.size_append]
     have y1 : (⟨#[32]⟩ : ByteArray).size = 1 := rfl
     have y2 : (⟨#[64]⟩ : ByteArray).size = 1 := rfl
     omega
    go_wp2_with fail
    go_roundw
    case rel => exact ⟨k + 1, _, by omega, by go_num, rfl, HN, hT2, P,  KB⟩
    case measure => simp [intOf]; omega
   ·obtain rfl : k = n := by omega
    have hlti : ¬ (k : Int) < (k : Int) := by omega
    have pc := P.cell
    have HE := Lib.hid (show jc1 x = T by unfold jc1; rw [HLN.out, HT.out])
    go_wp2_with fail
    go_ret
    rw [HE.out]
    exact ⟨rfl, KB⟩
theorem jlh (A : Option Addr) (n c : Nat) (x : Card) (w : World) (hx : Sees w 0 2 A n (x.punches.flatMap Punch.enc)) (hn : n ≤ 1048576) (hg : Gl w) :
  Calls Tryz.prog 137 #[.agg #[x.number, x.start, x.finish, .slice A n c]] w fun e w' => e = .returned (.tuple #[.string ((jd1 x).getD ⟨#[]⟩), .bool (jd1 x).isSome]) ∧ Below w.heap.size w w' := by
 have KB := nB w (.cells #[x.number, x.start, x.finish, .slice A n c] 106)
 have P := nP w [x.number, x.start, x.finish, .slice A n c] 106
 go_enter Tryz.func137, Tryz.ntmps137
 go_wp2_with fail
 generalize w.alloc _ = w1 at *
 refine (jd6 A n c 0 x w1 (hx.below KB (Nat.le_refl _)) hn).mono ?_
 rintro e w2 ⟨rfl, b⟩
 replace P := P.next b
 replace KB := jaa KB b
 clear b
 obtain ⟨ok, hok⟩ : ∃ ok, jap x = ok := ⟨_, rfl⟩
 have HOK := Lib.hid hok
 rw [hok]
 clear hok
 have pc := P.cell
 cases ok
 ·have HR := Lib.hid (show jd1 x = none by unfold jd1; rw [HOK.out]; rfl)
  go_wp2_with fail
  go_ret2
  rw [HR.out]
  exact ⟨rfl, KB⟩
 ·have HR := Lib.hid (show jd1 x = some (jc1 x) by unfold jd1; rw [HOK.out]; rfl)
  go_wp2_with fail
  refine (jll A n c x w2 (hx.below KB (Nat.le_refl _)) HOK.out (hg.next KB)).mono ?_
  rintro e w3 ⟨rfl, b⟩
  go_wp2_with fail
  go_ret2
  rw [HR.out]
  exact ⟨rfl, jaa KB b⟩
theorem jhd (A : Option Addr) (n c : Nat) (x : Card) (w : World) (hx : Sees w 0 2 A n (x.punches.flatMap Punch.enc)) (hn : n ≤ 1048576) :
  Calls Tryz.prog 126 #[.agg #[x.number, x.start, x.finish, .slice A n c]] w fun e w' => e = .returned (.tuple #[.string ((jd1 x).getD ⟨#[]⟩), .bool (jd1 x).isSome]) ∧ Below w.heap.size w w' := by
 have KB := nB w (.cells #[x.number, x.start, x.finish, .slice A n c] 106)
 have P := nP w [x.number, x.start, x.finish, .slice A n c] 106
 go_enter Tryz.func126, Tryz.ntmps126
 go_wp2_with fail
 generalize w.alloc _ = w1 at *
 refine (jc2 A n c 0 x w1 (hx.below KB (Nat.le_refl _)) hn).mono ?_
 rintro e w2 ⟨rfl, b⟩
 replace P := P.next b
 replace KB := jaa KB b
 clear b
 obtain ⟨ok, hok⟩ : ∃ ok, jap x = ok := ⟨_, rfl⟩
 have HOK := Lib.hid hok
 rw [hok]
 clear hok
 have pc := P.cell
 cases ok
 ·have HR := Lib.hid (show jd1 x = none by unfold jd1; rw [HOK.out]; rfl)
  go_wp2_with fail
  go_ret2
  rw [HR.out]
  exact ⟨rfl, KB⟩
 ·have HR := Lib.hid (show jd1 x = some (jc1 x) by unfold jd1; rw [HOK.out]; rfl)
  go_wp2_with fail
  refine (jmx A n c x w2 (hx.below KB (Nat.le_refl _)) HOK.out).mono ?_
  rintro e w3 ⟨rfl, b⟩
  go_wp2_with fail
  go_ret2
  rw [HR.out]
  exact ⟨rfl, jaa KB b⟩
end Go.Proofs.YtflpcdffmpfdpaaGreatDoor
