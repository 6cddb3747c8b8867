/- Joined texts of this proof: Base, Help1, Nest, PunchT, CardT, EntT, EntM, Text, LogL, ConT. -/
import Derived.WalkKit
import Derived.WalkSpells
import Derived.WalkLawsBesides
import Derived.LoopTactic
import Derived.RegionTactic
import Derived.Outline
import Derived.BigQuiet
import Derived.Deep.QuietTactic
import Derived.Deep.AppendLies
import Derived.Lib.Hide
import Derived.KernelRfl
import Derived.Deep.Draws
import Derived.StillTailTactics
import Derived.Deep.RegionHeld3
import Derived.Test.YtflpcdffmpfdpaaGreatDoorChecked
import Derived.Test.YtflpcdffmpfdpaaGreatDoorB01
import Derived.Test.YtflpcdffmpfdpaaGreatDoorB02
set_option maxRecDepth 100000
set_option maxHeartbeats 8000000
namespace Go.Proofs.YtflpcdffmpfdpaaGreatDoor
open Go.RowKit
section
variable {w w' : World} {lo s n : Nat} {A : Option Addr} {cs : List Value}
end
section
variable {α : Type} {enc : α → List Value} {w : World} {lo s n k : Nat} {A : Option Addr} {ds : List α}
end
section
variable {w w' : World} {g : Nat} {t : TypeId} {cs : List Value}
end
theorem jr1 {B : Nat} {a : World} {g : Nat} (hg : B ≤ g) : ∀ (vs : List Value) {w : World} (_ : Below B a w) (i : Nat), Below B a (jkr w g i vs)
 | [], _, h, _ => h
 | v :: vs, _, h, i => jr1 hg vs (h.setCell (p := ⟨g, i, none⟩) hg v) (i + 1)
section
variable {α : Type} {enc : α → List Value} {s : Nat} {xs : List α} {k : Nat} {cs : List Value}
theorem Upto.room {w : World} {g : Nat} {t : TypeId} (h : Upto enc s xs k cs) (hB : Blk w g t cs) (hk : k < xs.length) (j : Nat) (hj : j < s) : ∃ u, w.cell? ⟨g, k * s + j, none⟩ = some u := by
 have hle : (k + 1) * s ≤ xs.length * s := Nat.mul_le_mul_right s hk
 rw [Nat.succ_mul] at hle
 have hl := h.len
 have hlt : k * s + j < cs.length := by omega
 exact ⟨_, (hB.cell _).trans (List.getElem?_eq_getElem hlt)⟩
end
theorem jry {P : Program} {t e : TypeId} {z : Value} {s bytes : Nat} (n : Nat) (ht : P.underlying t = some (.slice e)) (hi : (P.info? e).map (fun i => (i.zero, i.size, i.bytes)) = some (some z, s, bytes)) (hb : bytes * n ≤ 281474976710656) (hn : n ≤ 1000000000000) :
  ∃ zs : List Value, zs.length = n * s ∧ ∀ w : World, (Instr.makeSlice t (.int .i64 (n : Int)) (.int .i64 (n : Int))).run P w = .ok (.slice (some ⟨w.heap.size, 0, none⟩) n n) (w.alloc (.cells zs.toArray e)) := by
 obtain ⟨i0, hi, hz0, hz1, hz2⟩ := info_parts hi
 refine ⟨(madeCells z.cells (n * i0.size)).toList, by simp [size_madeCells, hz1], fun w => ?_⟩
 have := run_make (P := P) w t e i0 z ht hi hz0 .i64 .i64 n n (by omega) (by omega) (by rw [hz2]; have h : ((bytes * n : Nat) : Int) ≤ 281474976710656 := by omega
                                                                                        rwa [Int.natCast_mul] at h) (by omega)
 simpa using this
section
variable {w w' : World} {S T : Nat → Prop} {t s n c : Nat} {A : Option Addr} {cs : List Value}
end
theorem jq1 {α : Type} (f : Int → α) (s : Nat) (k : Int) (n : Nat) : (jpm f s k n).length = n := by simp [jpm]
theorem jsp {α : Type} (f : Int → α) (s : Nat) (k : Int) (n i : Nat) (h : i < (jpm f s k n).length) : (jpm f s k n)[i] = f (k + (i : Int) * (s : Int)) := by simp [jpm]
def marks (k : Int) (n : Nat) : List Int := (List.range n).map fun i : Nat => k + (i : Int)
section
variable {α : Type} {sh : Sh α} {w w' : World} {lo s n c t ti : Nat} {A : Option Addr} {xs : List α} {S T : Nat → Prop}
end
def jqz {α : Type} (f : Int → α → α) (wt : α → Nat) : Int → List α → List α
 | _, [] => []
 | k, x :: l => f k x :: jqz f wt (k + wt x) l
def wtN {α : Type} (wt : α → Nat) : List α → Nat
 | [] => 0
 | x :: l => wt x + wtN wt l
theorem jrz {α : Type} (wt : α → Nat) (l m : List α) : wtN wt (l ++ m) = wtN wt l + wtN wt m := by
 induction l with
 | nil => simp [wtN]
 | cons x l ih => simp only [List.cons_append, wtN, ih]; omega
theorem jsc {α : Type} (wt : α → Nat) {xs : List α} {k : Nat} (hk : k < xs.length) : wtN wt (xs.take (k + 1)) = wtN wt (xs.take k) + wt xs[k] := by
 rw [List.take_succ_eq_append_getElem hk, jrz]; simp [wtN]
theorem jtj {α : Type} (wt : α → Nat) (xs : List α) (k : Nat) : wtN wt (xs.take k) ≤ wtN wt xs := by
 conv => rhs; rw [← List.take_append_drop k xs, jrz]
 omega
theorem wtN_at {α : Type} (wt : α → Nat) {xs : List α} {k : Nat} (hk : k < xs.length) : wtN wt (xs.take k) + wt xs[k] ≤ wtN wt xs := by
 rw [← jsc wt hk]; exact jtj _ _ _
theorem jrf {α : Type} (f : Int → α → α) (wt : α → Nat) : ∀ (k : Int) (l m : List α), jqz f wt k (l ++ m) = jqz f wt k l ++ jqz f wt (k + wtN wt l) m
 | k, [], m => by simp [jqz, wtN]
 | k, x :: l, m => by
  simp only [List.cons_append, jqz, wtN, jrf f wt (k + wt x) l m]
  rw [show k + ↑(wt x) + ↑(wtN wt l) = k + ↑(wt x + wtN wt l) by omega]
theorem jq8 {α : Type} (f : Int → α → α) (wt : α → Nat) : ∀ (k : Int) (l : List α), (jqz f wt k l).length = l.length
 | _, [] => rfl
 | _, _ :: l => by simp [jqz, jq8 f wt _ l]
theorem jso {α : Type} (f : Int → α → α) (wt : α → Nat) (k0 : Int) {xs : List α} {k : Nat} (hk : k < xs.length) : jqz f wt k0 (xs.take (k + 1)) = jqz f wt k0 (xs.take k) ++ [f (k0 + wtN wt (xs.take k)) xs[k]] := by
 rw [List.take_succ_eq_append_getElem hk, jrf]; rfl
theorem jsi {α : Type} (vs cs : List α) (i : Nat) (h : i + vs.length ≤ cs.length) : (jey cs i vs).take (i + vs.length) = cs.take i ++ vs := by
 refine List.ext_getElem? fun j => ?_
 rw [List.getElem?_take]
 by_cases hj : j < i + vs.length
 ·rw [if_pos hj, jfr _ _ _ _ h]
  by_cases h1 : i ≤ j
  ·rw [if_pos ⟨h1, hj⟩, List.getElem?_append_right (by rw [List.length_take]; omega)]
   congr 1
   rw [List.length_take]; omega
  ·rw [if_neg (by omega), List.getElem?_append_left (by rw [List.length_take]; omega), List.getElem?_take, if_pos (by omega)]
 ·rw [if_neg hj, List.getElem?_eq_none (by simp; omega)]
section
variable {α : Type} {sh : Sh α} {w w' : World} {lo s n c t ti : Nat} {A : Option Addr} {xs : List α} {S T : Nat → Prop} {rs : List (Hd α)}
theorem jtm {β : Type} (A B : List β) (x y : β) (k : Nat) (h : A.length = k) : (A ++ x :: B).set k y = (A ++ [y]) ++ B := by
 subst h
 rw [List.set_append_right _ _ (Nat.le_refl _)]
 simp
theorem jsm {g k : Nat} {y : α} (hk : k < rs.length) (h : ∀ r ∈ rs, ¬ jaj r.A g) : ∀ r ∈ rs.set k ⟨y, rs[k].A, rs[k].n, rs[k].c⟩, ¬ jaj r.A g := by
 intro r hr
 rcases List.mem_or_eq_of_mem_set hr with hr | rfl
 ·exact h r hr
 ·exact h rs[k] (List.getElem_mem hk)
theorem jsn {f : Int → α → α} {wt : α → Nat} {k0 : Int} {k : Nat} (hk : k < rs.length) (hkx : k < xs.length) (h : rs.map Hd.x = jqz f wt k0 (xs.take k) ++ xs.drop k) :
  (rs.set k ⟨f (k0 + wtN wt (xs.take k)) xs[k], rs[k].A, rs[k].n, rs[k].c⟩).map Hd.x = jqz f wt k0 (xs.take (k + 1)) ++ xs.drop (k + 1) := by
 rw [List.map_set, h, List.drop_eq_getElem_cons hkx, jtm _ _ _ _ k (by rw [jq8, List.length_take]; omega), jso _ _ _ hkx]
end
theorem jsr (a0 a1 : Int) (w : World) : Calls Tryz.prog 229 #[.agg #[a0, a1]] w fun e w' => e = .returned (.agg #[a0, a1]) ∧ Below w.heap.size w w' := by
 go_enter Tryz.func229, Tryz.ntmps229
 go_wp2
 exact bodyPost_ret (v := .agg #[a0, a1]) (by simp [results, Tryz.results229, go_sem]) rfl ⟨rfl, (((Below.refl _ _).alloc (Nat.le_refl _) _).alloc (by simp) _).alloc (by simp; omega) _⟩
theorem jsj (A : Option Addr) (n c : Nat) (xs : List Punch) (w : World) (hx : Sees w 0 2 A n (xs.flatMap Punch.enc)) (hn : n ≤ 1048576) :
  Calls Tryz.prog 203 #[.slice A n c] w fun e w' => ∃ A', e = .returned (.slice A' n n) ∧ w'.ownsRow w.heap.size 188 2 (.slice A' n n) n (xs.flatMap Punch.enc) ∧ Below w.heap.size w w' := by
 have hl := hx.count (by decide) (fun _ => rfl)
 obtain ⟨zs, hzs, hmk⟩ := jry (P := Tryz.prog) n Tryz.underlying104 jbg (by omega) (by omega)
 go_enter Tryz.func203, Tryz.ntmps203
 go_wp2
 have hB := Blk.new w 188 zs
 have hb0 := nB w (.cells zs.toArray 188)
 clear hmk
 go_loopw [4] (fun v wr => ∃ (k : Nat) (cs : List Value), k ≤ n ∧ v = .int .i64 k ∧ Blk wr w.heap.size 188 cs ∧ cs.length = n * 2 ∧ Upto Punch.enc 2 xs k cs ∧ Below w.heap.size w wr) (fun v _ => n - (intOf v).toNat)
 case atStart => exact ⟨0, zs, Nat.zero_le _, rfl, hB, hzs, Upto.zero (by rw [hzs, hl]; exact Nat.le_refl _), hb0⟩
 case round =>
  obtain ⟨k, cs, hk, rfl, hB, hcl, hu, hb⟩ := hrel
  by_cases hlt : k < n
  ·obtain ⟨b, off, rfl, hkx, c0, c1⟩ := (hx.next hb).elem2 (fun _ => rfl) hlt
   go_wp2_with fail
   refine (jsr _ _ _).mono ?_
   rintro e w1 ⟨rfl, hb1⟩
   have hB1 := hB.next hb1
   obtain ⟨v0, s0⟩ := hu.room hB1 hkx 0 (by decide)
   obtain ⟨v1, s1⟩ := hu.room hB1 hkx 1 (by decide)
   rw [Nat.add_zero] at s0
   have hf := hB1.frozen
   go_wp2
   go_roundw
   case rel => exact ⟨k + 1, _, by omega, by go_num, hB1.many (Punch.enc xs[k]) (k * 2), (jfg _ _ _).trans hcl, hu.step (fun _ => rfl) hkx, jr1 (Nat.le_refl _) (Punch.enc xs[k]) (jaa hb hb1) (k * 2)⟩
   case measure => simp [intOf]; omega
  ·go_wp2
   go_ret
   have hcs := hu.all (fun _ => rfl) (by omega)
   rw [hl] at hcs
   exact ⟨_, rfl, jci (Nat.le_refl _) hB hcl (Nat.le_refl _) (by simp only [maxLen]; omega) hcs, hb⟩
theorem jsk (a0 a1 : Int) (w : World) : Calls Tryz.prog 243 #[.agg #[a0, a1], .agg #[a0, a1]] w fun e w' => e = .returned (.bool true) ∧ Below w.heap.size w w' := by
 go_enter Tryz.func243, Tryz.ntmps243
 go_wp2
 go_ret
 exact ⟨rfl, ((Below.refl _ _).alloc (Nat.le_refl _) _).alloc (by simp) _⟩
theorem jsd (A A' : Option Addr) (n n' c c' lo lo' : Nat) (xs ys : List Punch) (w : World) (hx : Sees w lo 2 A n (xs.flatMap Punch.enc)) (hy : Sees w lo' 2 A' n' (ys.flatMap Punch.enc)) (he : xs = ys) (hn : n ≤ 140737488355328) :
  Calls Tryz.prog 221 #[.slice A n c, .slice A' n' c'] w fun e w' => e = .returned (.bool true) ∧ Below w.heap.size w w' := by
 subst he
 have hl := hx.count (by decide) (fun _ => rfl)
 have hl' := hy.count (by decide) (fun _ => rfl)
 obtain rfl : n = n' := by omega
 go_enter Tryz.func221, Tryz.ntmps221
 go_wp2_with fail
 go_loopw [5] (fun v wr => ∃ k : Nat, k ≤ n ∧ v = .int .i64 k ∧ Below w.heap.size w wr) (fun v _ => n - (intOf v).toNat)
 case atStart => exact ⟨0, Nat.zero_le _, rfl, Below.refl _ _⟩
 case round =>
  obtain ⟨k, hk, rfl, hb⟩ := hrel
  by_cases hlt : k < n
  ·obtain ⟨b, off, rfl, hkx, c0, c1⟩ := (hx.next hb).elem2 (fun _ => rfl) hlt
   obtain ⟨b', off', rfl, hky, d0, d1⟩ := (hy.next hb).elem2 (fun _ => rfl) hlt
   go_wp2_with fail
   refine wp_region_still_tail 8 (by kernel_rfl) (by kernel_rfl) ?_
   simp only [List.take_succ_cons, List.take_zero, List.drop_succ_cons, List.drop_zero]
   change wpStill _ _ wr.drew _ _ _
   repeat still_step
   refine wpStill_nil ?_
   change wpList _ _ _ _ _ wr.drew
   have hb' := ja3 hb (Quiet.one wr)
   generalize wr.drew = w2 at *
   go_wp2_with fail
   refine (jsk _ _ _).mono ?_
   rintro e w1 ⟨rfl, hb1⟩
   go_wp2
   go_roundw
   case rel => exact ⟨k + 1, by omega, by go_num, jaa hb' hb1⟩
   case measure => simp [intOf]; omega
  ·go_wp2
   go_ret
   exact ⟨rfl, hb⟩
theorem jrv (S : Nat → Prop) (t n c : Nat) (A : Option Addr) (xs : List Punch) (k0 : Int) (w : World) (hM : Mine w S t 2 A n c (xs.flatMap Punch.enc)) (h0 : 0 ≤ k0) (h1 : k0 ≤ 1000000000000) (hn : n ≤ 140737488355328) :
  Calls Tryz.prog 144 #[.slice A n c, .int .i64 k0] w fun e w' => e = .returned (.int .i64 (k0 + n * 2)) ∧ Mine w' S t 2 A n c ((jpm Punch.mark 2 k0 n).flatMap Punch.enc) ∧ Only S w w' := by
 obtain ⟨hown, htop⟩ := hM
 rcases jby hown with ⟨rfl, rfl, rfl, hxs⟩ | ⟨g, cur, rfl, hg, hB, hcl, hnc, hcm, htk⟩
 ·go_enter Tryz.func144, Tryz.ntmps144
  go_wp2
  refine wp_loop_rounds 1 ?_
  rw [rounds_succ]
  go_wp2
  go_ret
  exact ⟨by simp, ⟨World.ownsRow_nil _ _ _ _, htop⟩, Only.refl _ _⟩
 ·have hS : S g := htop g rfl
  have hcl' : n * 2 ≤ cur.length := by omega
  clear hown htk
  go_enter Tryz.func144, Tryz.ntmps144
  go_wp2
  go_loopw [1, 5] (fun q v wr => ∃ (k : Nat) (cs : List Value), k ≤ n ∧ q = .int .i64 (k0 + k * 2) ∧ v = .int .i64 k ∧ Blk wr g t cs ∧ cs.length = c * 2 ∧ Upto Punch.enc 2 (jpm Punch.mark 2 k0 n) k cs ∧ Only S w wr) (fun _ v _ => n - (intOf v).toNat)
  case atStart => exact ⟨0, _, Nat.zero_le _, by simp, rfl, hB, hcl, Upto.zero (by rw [jq1]; exact hcl'), Only.refl _ _⟩
  case round =>
   obtain ⟨k, cs, hk, rfl, rfl, hB, hcl, hu, ho⟩ := hrel
   by_cases hlt : k < n
   ·have hkx : k < (jpm Punch.mark 2 k0 n).length := by rw [jq1]; omega
    obtain ⟨v0, s0⟩ := hu.room hB hkx 0 (by decide)
    obtain ⟨v1, s1⟩ := hu.room hB hkx 1 (by decide)
    rw [Nat.add_zero] at s0
    have hf := hB.frozen
    go_wp2
    go_roundw
    case rel => exact ⟨k + 1, _, by omega, by go_num, by go_num, hB.many (Punch.enc (Punch.mark (k0 + k * 2))) (k * 2), (jfg _ _ _).trans hcl, by have h := hu.step (fun _ => rfl) hkx; rw [jsp] at h; exact h, Only.many hS (Punch.enc (Punch.mark (k0 + k * 2))) ho (k * 2)⟩
    case measure => simp [intOf]; omega
   ·go_wp2
    go_ret
    obtain rfl : k = n := by omega
    have hcs := hu.all (fun _ => rfl) (by rw [jq1])
    rw [jq1] at hcs
    exact ⟨rfl, ⟨jci hg hB hcl hnc hcm hcs, htop⟩, ho⟩
theorem jtc {α : Type} (f : α → Nat) {x : α} : ∀ {l : List α} (_ : x ∈ l), f x ≤ wtN f l
 | y :: l, h => by
  rcases List.mem_cons.1 h with rfl | h
  ·simp only [wtN]; omega
  ·have := jtc f h; simp only [wtN]; omega
def Card.wt (x : Card) : Nat := x.punches.length * 2 + 3
theorem js0 (A : Option Addr) (n c lo : Nat) (x : Card) (w : World) (hx : Sees w lo 2 A n (x.punches.flatMap Punch.enc)) (hn : n ≤ 1048576) :
  Calls Tryz.prog 170 #[.agg #[(.int .i64 x.number), (.int .i64 x.start), (.int .i64 x.finish), (.slice A n c)]] w fun e w' => ∃ B1, e = .returned (.agg #[(.int .i64 x.number), (.int .i64 x.start), (.int .i64 x.finish), (.slice B1 n n)]) ∧ Mine w' (In (w.heap.size + 1) w'.heap.size) 188 2 B1 n n (x.punches.flatMap Punch.enc) ∧ Below w.heap.size w w' := by
 go_enter Tryz.func170, Tryz.ntmps170
 go_wp2_with fail
 have K0 : Below w.heap.size w _ := (((Below.refl w.heap.size w).alloc (Nat.le_refl _) (.cells #[(.int .i64 x.number), (.int .i64 x.start), (.int .i64 x.finish), (.slice A n c)] 154)).alloc (by simp) (.cells #[.int .i64 0, .int .i64 0, .int .i64 0, .slice none 0 0] 106)).alloc (by simp; omega) (.cells #[(.int .i64 x.number), (.int .i64 x.start), (.int .i64 x.finish), .slice none 0 0] 106)
 refine (jsj _ _ _ _ _ ((hx.less (Nat.zero_le _)).next K0) hn).mono ?_
 rintro e w1 ⟨B1, rfl, o1, b1⟩
 have K1 := jaa K0 b1
 have z1 : w.heap.size + 1 + 1 + 1 ≤ w1.heap.size := by have := b1.size; simpa using this
 have R1 : Blk w1 (w.heap.size + 1) 106 [.int .i64 0, .int .i64 0, .int .i64 0, .slice none 0 0] := ((Blk.at_ (by simp)).alloc _).next b1
 have L1 : Blk w1 (w.heap.size + 1 + 1) 106 [(.int .i64 x.number), (.int .i64 x.start), (.int .i64 x.finish), .slice none 0 0] := (Blk.at_ (by simp)).next b1
 have P1 : Blk w1 w.heap.size 154 [(.int .i64 x.number), (.int .i64 x.start), (.int .i64 x.finish), (.slice A n c)] := (((Blk.at_ rfl).alloc _).alloc _).next b1
 have p1 := P1.cell
 have l1 := L1.cell
 have lf1 := L1.frozen
 have r1 := R1.cell
 have rf1 := R1.frozen
 go_wp2_with fail
 have RF := (((((R1.far (p := ⟨w.heap.size + 1 + 1, 3, none⟩) (by simp) (.slice B1 n n)).set_ 0 (.int .i64 x.number)).set_ 1 (.int .i64 x.start)).set_ 2 (.int .i64 x.finish)).set_ 3 (.slice B1 n n))
 have O3 := ((((((Only.refl (fun b => b = w.heap.size + 1 ∨ b = w.heap.size + 1 + 1) w1).setCell (p := ⟨w.heap.size + 1 + 1, 3, none⟩) (.inr rfl) (.slice B1 n n)).setCell (p := ⟨w.heap.size + 1, 0, none⟩) (.inl rfl) (.int .i64 x.number)).setCell (p := ⟨w.heap.size + 1, 1, none⟩) (.inl rfl) (.int .i64 x.start)).setCell (p := ⟨w.heap.size + 1, 2, none⟩) (.inl rfl) (.int .i64 x.finish)).setCell (p := ⟨w.heap.size + 1, 3, none⟩) (.inl rfl) (.slice B1 n n))
 have M1 := (Mine.of o1).only O3 (fun b h1 h2 => by have := h1.1; simp at this; rcases h2 with h2 | h2 <;> omega)
 have zF := O3.size
 refine bodyPost_ret (results_cell_row rfl _ _ (w.heap.size + 1) _ _ (0, 0) _ rfl RF Tryz.underlying106 rfl (by kernel_rfl)) rfl ⟨B1, rfl, M1.wide ?_, ?_⟩
 ·intro b hb
  have h1 := hb.1
  have h2 := hb.2
  simp at h1
  exact ⟨by omega, by omega⟩
 ·exact K1.trans (O3.below (fun k hk => by rcases hk with hk | hk <;> omega) (by omega))
theorem jsa (A : Option Addr) (n c : Nat) (left : Int) (w : World) (hn : n ≤ 9223372036854775807) (hl : 0 ≤ left) (hl' : left ≤ 1048576) :
  Calls Tryz.prog 198 #[.slice A n c, .int .i64 left] w fun e w' => ∃ l : Int, e = .returned (.int .i64 l) ∧ w = w' ∧ (l = -1 ∨ 0 ≤ l ∧ l = left - n) := by
 by_cases hlt : left - n < 0
 ·go_enter Tryz.func198, Tryz.ntmps198
  go_wp2
  go_ret
  exact ⟨_, rfl, rfl, .inl rfl⟩
 ·go_enter Tryz.func198, Tryz.ntmps198
  go_wp2
  go_ret
  exact ⟨_, rfl, rfl, .inr ⟨by omega, rfl⟩⟩
theorem jsy (A : Option Addr) (n c : Nat) (x : Card) (left : Int) (w : World) (hn : n ≤ 9223372036854775807) (hl : 0 ≤ left) (hl' : left ≤ 1048576) :
  Calls Tryz.prog 157 #[.agg #[(.int .i64 x.number), (.int .i64 x.start), (.int .i64 x.finish), (.slice A n c)], .int .i64 left] w fun e w' => ∃ l : Int, e = .returned (.int .i64 l) ∧ Below w.heap.size w w' ∧ (l = -1 ∨ 0 ≤ l ∧ l = left - n) := by
 go_enter Tryz.func157, Tryz.ntmps157
 go_wp2_with fail
 refine (jsa _ _ _ _ _ hn hl hl').mono ?_
 rintro e w' ⟨l1, rfl, rfl, rfl | h1⟩
 ·go_wp2_with fail
  go_ret
  exact ⟨_, rfl, (Below.refl _ _).alloc (Nat.le_refl _) _, .inl rfl⟩
 ·go_wp2_with fail
  go_ret
  exact ⟨_, rfl, (Below.refl _ _).alloc (Nat.le_refl _) _, .inr (by omega)⟩
theorem jst (A B : Option Addr) (n n' c c' lo lo' : Nat) (x y : Card) (w : World) (hx : Sees w lo 2 A n (x.punches.flatMap Punch.enc)) (hy : Sees w lo' 2 B n' (y.punches.flatMap Punch.enc)) (he : x = y) (hn : n ≤ 1048576) :
  Calls Tryz.prog 186 #[.agg #[(.int .i64 x.number), (.int .i64 x.start), (.int .i64 x.finish), (.slice A n c)], .agg #[(.int .i64 y.number), (.int .i64 y.start), (.int .i64 y.finish), (.slice B n' c')]] w fun e w' => e = .returned (.bool true) ∧ Below w.heap.size w w' := by
 subst he
 go_enter Tryz.func186, Tryz.ntmps186
 go_wp2_with fail
 have K0 : Below w.heap.size w _ := ((Below.refl w.heap.size w).alloc (Nat.le_refl _) (.cells #[(.int .i64 x.number), (.int .i64 x.start), (.int .i64 x.finish), (.slice A n c)] 106)).alloc (by simp) (.cells #[(.int .i64 x.number), (.int .i64 x.start), (.int .i64 x.finish), (.slice B n' c')] 106)
 refine (jsd _ _ _ _ _ _ _ _ _ _ _ (hx.next K0) (hy.next K0) rfl (by omega)).mono ?_
 rintro e w1 ⟨rfl, b1⟩
 have K1 := jaa K0 b1
 have P1 : Blk w1 w.heap.size 106 [(.int .i64 x.number), (.int .i64 x.start), (.int .i64 x.finish), (.slice A n c)] := ((Blk.at_ rfl).alloc _).next b1
 have P2 : Blk w1 (w.heap.size + 1) 106 [(.int .i64 x.number), (.int .i64 x.start), (.int .i64 x.finish), (.slice B n' c')] := (Blk.at_ (by simp)).next b1
 have p1 := P1.cell
 have p2 := P2.cell
 go_wp2_with fail
 go_ret
 exact ⟨rfl, K1⟩
def Entrant.wt (x : Entrant) : Nat := x.punches.length * 2 + 4
theorem jr4 (A B : Option Addr) (n n' c c' lo lo' : Nat) (x y : Entrant) (w : World) (hx : Sees w lo 2 A n (x.punches.flatMap Punch.enc)) (hy : Sees w lo' 2 B n' (y.punches.flatMap Punch.enc)) (he : x = y) (hn : n ≤ 1048576) :
  Calls Tryz.prog 143 #[.agg #[x.state, x.number, x.start, x.finish, .slice A n c], .agg #[y.state, y.number, y.start, y.finish, .slice B n' c']] w fun e w' => e = .returned (.bool true) ∧ Below w.heap.size w w' := by
 subst he
 go_enter Tryz.func143, Tryz.ntmps143
 go_wp2_with fail
 have K0 : Below w.heap.size w _ := ((Below.refl w.heap.size w).alloc (Nat.le_refl _) (.cells #[x.state, x.number, x.start, x.finish, .slice A n c] 108)).alloc (by simp) (.cells #[x.state, x.number, x.start, x.finish, .slice B n' c'] 108)
 refine (jst _ _ _ _ c c' _ _ x.card x.card _ (hx.next K0) (hy.next K0) rfl hn).mono ?_
 rintro e w1 ⟨rfl, b1⟩
 have K1 := jaa K0 b1
 go_wp2_with fail
 go_ret
 exact ⟨rfl, K1⟩
theorem jru (A A' : Option Addr) (n n' c c' lo lo' : Nat) (xs ys : List Entrant) (w : World) (hx : SeesN entrantSh w lo A n xs) (hy : SeesN entrantSh w lo' A' n' ys) (he : xs = ys) (hn : n ≤ 140737488355328) (hi : ∀ x ∈ xs, x.cnt ≤ 1048576) :
  Calls Tryz.prog 100 #[.slice A n c, .slice A' n' c'] w fun e w' => e = .returned (.bool true) ∧ Below w.heap.size w w' := by
 subst he
 have hl := hx.count
 have hl' := hy.count
 obtain rfl : n = n' := by omega
 go_enter Tryz.func100, Tryz.ntmps100
 go_wp2_with fail
 go_loopw [5] (fun v wr => ∃ k : Nat, k ≤ n ∧ v = .int .i64 k ∧ Below w.heap.size w wr) (fun v _ => n - (intOf v).toNat)
 case atStart => exact ⟨0, Nat.zero_le _, rfl, Below.refl _ _⟩
 case round =>
  obtain ⟨k, hk, rfl, hb⟩ := hrel
  by_cases hlt : k < n
  ·obtain ⟨b, off, B0, m, cc0, rfl, hkx, c0, c1, c2, c3, c4, hxi⟩ := SeesEntrant.elem (hx.next hb) hlt
   obtain ⟨b', off', B0', m', cc1, rfl, hky, d0, d1, d2, d3, d4, hyi⟩ := SeesEntrant.elem (hy.next hb) hlt
   have hm : m ≤ 1048576 := by
    have h1 := hi xs[k] (List.getElem_mem hkx)
    have h2 := hxi.count (by decide) (fun _ => rfl)
    unfold Entrant.cnt at h1
    omega
   have hb' := ja3 hb (Quiet.one wr)
   replace hxi := hxi.quiet (Quiet.one wr)
   replace hyi := hyi.quiet (Quiet.one wr)
   go_wp2_with fail
   refine wp_region_still_tail 8 (by kernel_rfl) (by kernel_rfl) ?_
   simp only [List.take_succ_cons, List.take_zero, List.drop_succ_cons, List.drop_zero]
   change wpStill _ _ wr.drew _ _ _
   repeat still_step
   refine wpStill_nil ?_
   change wpList _ _ _ _ _ wr.drew
   generalize wr.drew = w2 at *
   go_wp2_with fail
   refine (jr4 _ _ _ _ cc0 cc1 _ _ xs[k] xs[k] _ hxi hyi rfl hm).mono ?_
   rintro e w1 ⟨rfl, hb1⟩
   go_wp2_with fail
   go_roundw
   case rel => exact ⟨k + 1, by omega, by go_num, jaa hb' hb1⟩
   case measure => simp [intOf]; omega
  ·go_wp2_with fail
   go_ret
   exact ⟨rfl, hb⟩
theorem jrl (S : Nat → Prop) (n c : Nat) (A : Option Addr) (xs : List Entrant) (k0 : Int) (w : World) (hM : MineN entrantSh w S 108 188 A n c xs) (h0 : 0 ≤ k0) (h1 : k0 + wtN Entrant.wt xs ≤ 1000000000) (hn : n ≤ 1048576) :
  Calls Tryz.prog 101 #[.slice A n c, .int .i64 k0] w fun e w' => e = .returned (.int .i64 (k0 + wtN Entrant.wt xs)) ∧ MineN entrantSh w' S 108 188 A n c (jqz Entrant.mark Entrant.wt k0 xs) ∧ Only S w w' := by
 have hl := hM.count
 obtain ⟨rs0, hrs0, hM⟩ := hM
 rcases jby hM.outer.own with ⟨rfl, rfl, rfl, hxs⟩ | ⟨g, cur, rfl, hg, hB, hcl, hnc, hcm, htk⟩
 ·have hx0 : xs = [] := List.length_eq_zero_iff.1 hl
  subst hx0
  go_enter Tryz.func101, Tryz.ntmps101
  go_wp2_with fail
  refine wp_loop_rounds 1 ?_
  rw [rounds_succ]
  go_wp2_with fail
  go_ret
  exact ⟨by simp [wtN], MineN.nil _ _ _ _, Only.refl _ _⟩
 ·have hS : S g := hM.outer.top g rfl
  have hag : ∀ r ∈ rs0, ¬ jaj r.A g := fun r hr hb => hM.apart r hr g hb rfl
  have hl0 : rs0.length = n := by rw [← hl, ← hrs0, List.length_map]
  have hin0 := hM.inners
  have hcl' : n * 5 ≤ cur.length := by rw [hcl]; exact Nat.mul_le_mul_right _ hnc
  clear hM
  go_enter Tryz.func101, Tryz.ntmps101
  go_wp2_with fail
  go_loopw [1, 5] (fun q v wr => ∃ (k : Nat) (cs : List Value) (rs : List (Hd Entrant)), k ≤ n ∧ q = .int .i64 (k0 + wtN Entrant.wt (xs.take k)) ∧ v = .int .i64 k ∧ Blk wr g 108 cs ∧ cs.length = c * 5 ∧ Hid (rs.map Hd.x = jqz Entrant.mark Entrant.wt k0 (xs.take k) ++ xs.drop k) ∧ rs.length = n ∧ cs.take (n * 5) = rs.flatMap entrantSh.enc ∧ Inners entrantSh wr S 188 rs ∧ (∀ r ∈ rs, ¬ jaj r.A g) ∧ Only S w wr) (fun _ v _ => n - (intOf v).toNat)
  case atStart => exact ⟨0, _, rs0, Nat.zero_le _, by simp [wtN], rfl, hB, hcl, Lib.hid (by simpa [jqz] using hrs0), hl0, htk, hin0, hag, Only.refl _ _⟩
  case round =>
   obtain ⟨k, cs, rs, hk, rfl, rfl, hB, hcl, HR, hrl, hcs, hin, hag, ho⟩ := hrel
   by_cases hlt : k < n
   ·have hkx : k < xs.length := by omega
    have hkr : k < rs.length := by omega
    have hrk : rs[k].x = xs[k] := by
     have h2 : (rs.map Hd.x)[k]'(by simpa using hkr) = xs[k] := by
      simp only [HR.out]
      have hlm : (jqz Entrant.mark Entrant.wt k0 (xs.take k)).length = k := by rw [jq8, List.length_take]; omega
      rw [List.getElem_append_right (by omega)]
      simp [hlm]
     simpa using h2
    have hmi := (hin.each rs[k] (List.getElem_mem hkr))
    rw [hrk] at hmi
    have hagk := hag rs[k] (List.getElem_mem hkr)
    have hsl := hB.cell (k * 5 + 4)
    have hsl2 : cs[k * 5 + 4]? = some (.slice rs[k].A rs[k].n rs[k].c) := by
     have h2 := jit (sh := entrantSh) rs k 4 hkr (by decide)
     rw [show (entrantSh.enc rs[k])[4]? = some (Value.slice rs[k].A rs[k].n rs[k].c) from rfl, ← hcs, List.getElem?_take, if_pos (by show k * 5 + 4 < n * 5; omega)] at h2
     exact h2
    rw [hsl2] at hsl
    have hcnt := hmi.sees.count (by decide) (fun _ => rfl)
    have hwa := wtN_at Entrant.wt hkx
    have hwn := Lib.hid (jsc Entrant.wt hkx)
    have hw1 : Entrant.wt xs[k] = rs[k].n * 2 + 4 := by unfold Entrant.wt; rw [hcnt]
    have hlt4 : k * 5 + 5 ≤ cs.length := by rw [hcl]; omega
    have HRk := Lib.hid (show rs.set k ⟨Entrant.mark (k0 + wtN Entrant.wt (xs.take k)) xs[k], rs[k].A, rs[k].n, rs[k].c⟩ = rs.set k ⟨Entrant.mark (k0 + wtN Entrant.wt (xs.take k)) xs[k], rs[k].A, rs[k].n, rs[k].c⟩ from rfl)
    have hfz := hB.frozen
    generalize hK : k0 + (wtN Entrant.wt (xs.take k) : Int) = K at *
    generalize hm : rs[k].n = m at *
    generalize hrA : rs[k].A = Ak at *
    generalize hrc : rs[k].c = ck at *
    obtain ⟨v0, s0⟩ : ∃ u, wr.cell? ⟨g, k * 5, none⟩ = some u := ⟨_, (hB.cell _).trans (List.getElem?_eq_getElem (by omega))⟩
    obtain ⟨v1, s1⟩ : ∃ u, wr.cell? ⟨g, k * 5 + 1, none⟩ = some u := ⟨_, (hB.cell _).trans (List.getElem?_eq_getElem (by omega))⟩
    obtain ⟨v2, s2⟩ : ∃ u, wr.cell? ⟨g, k * 5 + 2, none⟩ = some u := ⟨_, (hB.cell _).trans (List.getElem?_eq_getElem (by omega))⟩
    obtain ⟨v3, s3⟩ : ∃ u, wr.cell? ⟨g, k * 5 + 3, none⟩ = some u := ⟨_, (hB.cell _).trans (List.getElem?_eq_getElem (by omega))⟩
    have hK1 := Lib.hid hK
    have HA := Lib.hid hrA
    have HM := Lib.hid hm
    have HC := Lib.hid hrc
    have HX := Lib.hid hrk
    have H2 := Lib.hid hsl2
    have HCN := Lib.hid hcnt
    have hb1 : 0 ≤ K ∧ K ≤ 1000000000 - (m * 2 + 4) := by omega
    have hm2 : m * 2 ≤ 1000000000 := by omega
    clear hK hrA hm hrc hrk hsl2 hcnt
    go_wp2_with fail
    have B1 := ((((hB.set_ (k * 5) (.int .i64 (K))).set_ (k * 5 + 1) (.int .i64 (K + 1))).set_ (k * 5 + 2) (.int .i64 (K + 1 + 1))).set_ (k * 5 + 3) (.int .i64 (K + 1 + 1 + 1)))
    have O1 := ((((ho.setCell (p := ⟨g, k * 5, none⟩) hS (.int .i64 (K))).setCell (p := ⟨g, k * 5 + 1, none⟩) hS (.int .i64 (K + 1))).setCell (p := ⟨g, k * 5 + 2, none⟩) hS (.int .i64 (K + 1 + 1))).setCell (p := ⟨g, k * 5 + 3, none⟩) hS (.int .i64 (K + 1 + 1 + 1)))
    refine (jrv _ _ _ _ _ _ (K + 1 + 1 + 1 + 1) _ (hmi.exact_.only (T := fun b => b = g) ((((((Only.refl (fun b => b = g) wr).setCell (p := ⟨g, k * 5, none⟩) rfl (.int .i64 (K))).setCell (p := ⟨g, k * 5 + 1, none⟩) rfl (.int .i64 (K + 1))).setCell (p := ⟨g, k * 5 + 2, none⟩) rfl (.int .i64 (K + 1 + 1))).setCell (p := ⟨g, k * 5 + 3, none⟩) rfl (.int .i64 (K + 1 + 1 + 1)))) (fun b h2 h3 => hagk (h3 ▸ h2))) (by omega) (by omega) (by omega)).mono ?_
    rintro e w1 ⟨rfl, M1, q1⟩
    have B2 := B1.only q1 hagk
    have O2 := O1.trans (q1.mono hmi.top)
    have hfz2 := B2.frozen

    go_wp2_with fail
    have e1 := HA.out
    have e2 := HM.out
    have e3 := HC.out
    have e4 := hK1.out
    subst e1 e2 e3 e4
    have hkl : k * 5 + 5 ≤ cs.length := hlt4
    go_roundw
    case rel =>
     have hin1 := hin.onlyA (T := fun b => b = g) ((((((Only.refl (fun b => b = g) wr).setCell (p := ⟨g, k * 5, none⟩) rfl (.int .i64 (k0 + ↑(wtN Entrant.wt (xs.take k))))).setCell (p := ⟨g, k * 5 + 1, none⟩) rfl (.int .i64 (k0 + ↑(wtN Entrant.wt (xs.take k)) + 1))).setCell (p := ⟨g, k * 5 + 2, none⟩) rfl (.int .i64 (k0 + ↑(wtN Entrant.wt (xs.take k)) + 1 + 1))).setCell (p := ⟨g, k * 5 + 3, none⟩) rfl (.int .i64 (k0 + ↑(wtN Entrant.wt (xs.take k)) + 1 + 1 + 1)))) (fun r hr b h2 h3 => hag r hr (h3 ▸ h2))
     have hin2 := hin1.set hkr (Entrant.mark (k0 + wtN Entrant.wt (xs.take k)) xs[k]) q1 (by show Mine _ _ _ _ _ _ _ ((jpm Punch.mark 2 (k0 + ↑(wtN Entrant.wt (xs.take k)) + 1 + 1 + 1 + 1) xs[k].punches.length).flatMap Punch.enc); rw [HCN.out]; exact M1)
     have hag2 := jsm (y := Entrant.mark (k0 + wtN Entrant.wt (xs.take k)) xs[k]) hkr hag
     have hin3 := hin2.onlyA (T := fun b => b = g) ((Only.refl (fun b => b = g) w1)) (fun r hr b h2 h3 => hag2 r hr (h3 ▸ h2))
     have B3 := B2
     have O3 := O2
     refine ⟨k + 1, _, _, by omega, ?_, by go_num, B3, ?_, Lib.hid (jsn hkr hkx HR.out), ?_, ?_, hin3, hag2, O3⟩
     rotate_left
     ·simp only [List.length_set]; exact hcl
     ·rw [List.length_set]; exact hrl
     rotate_left
     ·have e2 := hwn.out
      congr 1
      omega
     ·rw [← hrl]
      refine jic (sh := entrantSh) hkr _ (by rw [hrl]; exact hcs) (fun j hj => ?_) (fun j hj => ?_)
      ·have e5 := H2.out
       have e6 := HCN.out
       match j, hj with
       | 0, _ => rw [show k * entrantSh.s + 0 = k * 5 from rfl, List.getElem?_set_ne (by omega), List.getElem?_set_ne (by omega), List.getElem?_set_ne (by omega), List.getElem?_set_self (by first | omega | (simp only [List.length_set]; omega))]; rfl
       | 1, _ => rw [show k * entrantSh.s + 1 = k * 5 + 1 from rfl, List.getElem?_set_ne (by omega), List.getElem?_set_ne (by omega), List.getElem?_set_self (by first | omega | (simp only [List.length_set]; omega))]; rfl
       | 2, _ => rw [show k * entrantSh.s + 2 = k * 5 + 2 from rfl, List.getElem?_set_ne (by omega), List.getElem?_set_self (by first | omega | (simp only [List.length_set]; omega))]; rfl
       | 3, _ => rw [show k * entrantSh.s + 3 = k * 5 + 3 from rfl, List.getElem?_set_self (by first | omega | (simp only [List.length_set]; omega))]; rfl
       | 4, _ => rw [show k * entrantSh.s + 4 = k * 5 + 4 from rfl, List.getElem?_set_ne (by omega), List.getElem?_set_ne (by omega), List.getElem?_set_ne (by omega), List.getElem?_set_ne (by omega)]; exact e5
      ·have hj' : ¬ (k * 5 ≤ j ∧ j < k * 5 + 5) := hj
       rw [List.getElem?_set_ne (by omega), List.getElem?_set_ne (by omega), List.getElem?_set_ne (by omega), List.getElem?_set_ne (by omega)]
    case measure => simp [intOf]; omega
   ·obtain rfl : k = n := by omega
    have e1 : xs.take k = xs := List.take_of_length_le (by omega)
    have e2 : xs.drop k = [] := List.drop_eq_nil_of_le (by omega)
    rw [e1, e2, List.append_nil] at HR
    rw [e1]
    go_wp2_with fail
    go_ret
    exact ⟨rfl, ⟨rs, HR.out, ⟨jci hg hB hcl hnc hcm hcs, fun b hb => by simp only [jaj, Value.ownBlock, Option.some.injEq] at hb; subst hb; exact hS⟩, hin, fun r hr b h2 h3 => by simp only [jaj, Value.ownBlock, Option.some.injEq] at h3; subst h3; exact hag r hr h2⟩, ho⟩
theorem jrk (k : Int) (w : World) (h0 : 0 ≤ k) (h1 : k ≤ 1000000000000000000) :
  Calls Tryz.prog 57 #[.int .i64 k] w fun e w' => e = .returned (.string (jp7 k)) ∧ Below w.heap.size w w' := by
 obtain ⟨k0, rfl⟩ := Int.eq_ofNat_of_zero_le h0
 by_cases hz : k0 = 0
 ·subst hz
  go_enter Tryz.func57, Tryz.ntmps57
  go_wp2
  go_ret
  exact ⟨rfl, Below.refl _ _⟩
 ·have hp : ¬ ((k0 : Int) ≤ 0) := by omega
  have hm := Lib.hid (show jp7 k0 = ⟨#[109]⟩ ++ jql 20 k0 ⟨#[]⟩ by rw [jp7, if_neg (by omega)]; rfl)
  go_enter Tryz.func57, Tryz.ntmps57
  go_wp2
  go_loopw [0, 3] (fun q o wr => ∃ (fuel k : Nat) (out : ByteArray), q = .int .i64 k ∧ o = .string out ∧ k < 10 ^ fuel ∧ k ≤ 1000000000000000000 ∧ out.size + fuel ≤ 20 ∧ Hid (jql 20 k0 ⟨#[]⟩ = jql fuel k out) ∧ Below w.heap.size w wr) (fun q _ _ => (intOf q).toNat)
  case atStart => exact ⟨20, k0, ⟨#[]⟩, rfl, rfl, by omega, by omega, by decide, Lib.hid rfl, Below.refl _ _⟩
  case round =>
   obtain ⟨fuel, k, out, rfl, rfl, hk, hk1, ho, hg, hb⟩ := hrel
   by_cases hlt : k = 0
   ·subst hlt
    go_wp2
    go_ret
    refine ⟨?_, hb⟩
    show Ending.returned (.string (⟨#[109]⟩ ++ out)) = _
    rw [hm.out, hg.out]
    cases fuel <;> simp [jql]
   ·obtain ⟨fuel, rfl⟩ : ∃ f, fuel = f + 1 := ⟨fuel - 1, by cases fuel with
     | zero => simp at hk; omega
     | succ f => omega⟩
    have hcv : Sem.run Tryz.prog (convert 47 9 (.slice (some ⟨wr.heap.size, 0, none⟩) 1 1)) (wr.alloc (.cells #[.int .u8 (48 + (k : Int) % 10)] 5)) = .ok (.string (digitS k)) (wr.alloc (.cells #[.int .u8 (48 + (k : Int) % 10)] 5)) := by
     refine run_convert_bytes_back (P := Tryz.prog) _ _ _ 5 _ 1 [UInt8.ofNat (48 + k % 10)] Tryz.underlying47 Tryz.underlying5 Tryz.underlying9 ?_
     intro j hj
     obtain rfl : j = 0 := by simp at hj; omega
     have h8 : (UInt8.ofNat (48 + k % 10)).toNat = 48 + k % 10 := by rw [UInt8.toNat_ofNat']; omega
     show (wr.alloc _).cell? ⟨wr.heap.size, 0, none⟩ = some (.int .u8 ((UInt8.ofNat (48 + k % 10)).toNat : Int))
     rw [h8]
     simp
    have hg' := Lib.hid (show jql 20 k0 ⟨#[]⟩ = jql fuel (k / 10) (digitS k ++ out) by rw [hg.out, jql, if_neg hlt])
    have hd1 : (digitS k).size = 1 := rfl
    have hd2 : (digitS k ++ out).size = 1 + out.size := by rw [ByteArray.size_append, hd1]
    generalize digitS k = D at *
    clear hg
    go_wp2
    go_roundw
    case rel => exact ⟨fuel, k / 10, D ++ out, by go_num, rfl, Nat.div_lt_of_lt_mul (by rw [Nat.pow_succ] at hk; omega), by omega, by omega, hg', hb.alloc hb.size _⟩
    case measure => simp [intOf]; omega
theorem jtb (a0 : ByteArray) (a1 : ByteArray) (a2 : Int) (w : World) : Calls Tryz.prog 33 #[.agg #[a0, a1, a2]] w fun e w' => e = .returned (.agg #[a0, a1, a2]) ∧ Below w.heap.size w w' := by
 go_enter Tryz.func33, Tryz.ntmps33
 go_wp2
 exact bodyPost_ret (v := .agg #[a0, a1, a2]) (by simp [results, Tryz.results33, go_sem]) rfl ⟨rfl, (((Below.refl _ _).alloc (Nat.le_refl _) _).alloc (by simp) _).alloc (by simp; omega) _⟩
theorem js4 (a0 : ByteArray) (a1 : ByteArray) (a2 : Int) (w : World) : Calls Tryz.prog 52 #[.agg #[a0, a1, a2], .agg #[a0, a1, a2]] w fun e w' => e = .returned (.bool true) ∧ Below w.heap.size w w' := by
 go_enter Tryz.func52, Tryz.ntmps52
 go_wp2
 go_ret
 exact ⟨rfl, ((Below.refl _ _).alloc (Nat.le_refl _) _).alloc (by simp) _⟩
theorem jta (x : Log) (left : Int) (w : World) (hx : x.upto 9223372036854775807) (hl : 0 ≤ left) (hl' : left ≤ 1048576) :
  Calls Tryz.prog 32 #[.agg #[x.durable, x.pending, x.count], .int .i64 left] w fun e w' => ∃ l : Int, e = .returned (.int .i64 l) ∧ Below w.heap.size w w' ∧ (l = -1 ∨ 0 ≤ l ∧ l ≤ left ∧ x.upto 1048576) := by
 unfold Log.upto at *
 go_enter Tryz.func32, Tryz.ntmps32
 go_wp2
 all_goals go_ret
 all_goals refine ⟨_, rfl, (Below.refl _ _).alloc (Nat.le_refl _) _, ?_⟩
 all_goals first | exact .inl rfl | (right; omega) | (right; simp only; omega)
theorem jsu (t : Int) (b : Bool) (A B : Option Addr) (n n' c c' lo lo' : Nat) (xs ys : List Entrant) (w : World) (hx : SeesN entrantSh w lo A n xs) (hy : SeesN entrantSh w lo' B n' ys) (he : xs = ys) (hn : n ≤ 1048576) (hi : ∀ x ∈ xs, x.cnt ≤ 1048576) :
  Calls Tryz.prog 51 #[.agg #[t, b, .slice A n c], .agg #[t, b, .slice B n' c']] w fun e w' => e = .returned (.bool true) ∧ Below w.heap.size w w' := by
 have e1 : (t != t) = false := bne_self_eq_false t
 have e2 : (b != b) = false := bne_self_eq_false b
 go_enter Tryz.func51, Tryz.ntmps51
 go_wp2_with fail
 have K0 : Below w.heap.size w _ := ((Below.refl w.heap.size w).alloc (Nat.le_refl _) (.cells #[t, b, .slice A n c] 32)).alloc (by simp) (.cells #[t, b, .slice B n' c'] 32)
 refine (jru _ _ _ _ c c' _ _ xs ys _ (hx.next K0) (hy.next K0) he (by omega) hi).mono ?_
 rintro e w1 ⟨rfl, b1⟩
 go_wp2_with fail
 go_ret
 exact ⟨rfl, jaa K0 b1⟩
theorem jr3 (t : Int) (b : Bool) (l : Log) (A B : Option Addr) (n n' c c' lo lo' : Nat) (xs ys : List Entrant) (w : World) (hx : SeesN entrantSh w lo A n xs) (hy : SeesN entrantSh w lo' B n' ys) (he : xs = ys) (hn : n ≤ 1048576) (hi : ∀ x ∈ xs, x.cnt ≤ 1048576) :
  Calls Tryz.prog 13 #[.agg #[t, b, .slice A n c, l.durable, l.pending, l.count], .agg #[t, b, .slice B n' c', l.durable, l.pending, l.count]] w fun e w' => e = .returned (.bool true) ∧ Below w.heap.size w w' := by
 have e1 : (t != t) = false := bne_self_eq_false t
 have e2 : (b != b) = false := bne_self_eq_false b
 go_enter Tryz.func13, Tryz.ntmps13
 go_wp2_with fail
 have K0 : Below w.heap.size w _ := ((Below.refl w.heap.size w).alloc (Nat.le_refl _) (.cells #[t, b, .slice A n c, l.durable, l.pending, l.count] 35)).alloc (by simp) (.cells #[t, b, .slice B n' c', l.durable, l.pending, l.count] 35)
 refine (jsu t b A B n n' c c' _ _ xs ys _ (hx.next K0) (hy.next K0) he hn hi).mono ?_
 rintro e w1 ⟨rfl, b1⟩
 have K1 := jaa K0 b1
 have P1 : Blk w1 w.heap.size 35 [.int .i64 t, .bool b, .slice A n c, .string l.durable, .string l.pending, .int .i64 l.count] := ((Blk.at_ rfl).alloc _).next b1
 have P2 : Blk w1 (w.heap.size + 1) 35 [.int .i64 t, .bool b, .slice B n' c', .string l.durable, .string l.pending, .int .i64 l.count] := (Blk.at_ (by simp)).next b1
 have p1 := P1.cell
 have p2 := P2.cell
 go_wp2_with fail
 refine (js4 l.durable l.pending l.count _).mono ?_
 rintro e w2 ⟨rfl, b2⟩
 go_wp2_with fail
 go_ret
 exact ⟨rfl, jaa K1 b2⟩
theorem jse (S : Nat → Prop) (t : Int) (b : Bool) (A : Option Addr) (n c : Nat) (xs : List Entrant) (k0 : Int) (w : World) (hM : MineN entrantSh w S 108 188 A n c xs) (h0 : 0 ≤ k0) (h1 : k0 + wtN Entrant.wt xs ≤ 1000000000) (hn : n ≤ 1048576) :
  Calls Tryz.prog 53 #[.agg #[t, b, .slice A n c], .int .i64 k0] w fun e w' => e = .returned (.int .i64 (k0 + wtN Entrant.wt xs)) ∧ MineN entrantSh w' S 108 188 A n c (jqz Entrant.mark Entrant.wt k0 xs) ∧ Only S w w' := by
 go_enter Tryz.func53, Tryz.ntmps53
 go_wp2_with fail
 have K0 := nB w (.cells #[t, b, .slice A n c] 32)
 refine (jrl S n c A xs k0 _ (hM.next K0) h0 h1 hn).mono ?_
 rintro e w1 ⟨rfl, M1, q1⟩
 go_wp2_with fail
 go_ret
 exact ⟨rfl, M1, (Only.of_below K0).trans q1⟩
theorem jrp (S : Nat → Prop) (t : Int) (b : Bool) (l : Log) (A : Option Addr) (n c : Nat) (xs : List Entrant) (k0 : Int) (w : World) (hM : MineN entrantSh w S 108 188 A n c xs) (h0 : 0 ≤ k0) (h1 : k0 + wtN Entrant.wt xs ≤ 1000000000) (hn : n ≤ 1048576) :
  Calls Tryz.prog 14 #[.agg #[t, b, .slice A n c, l.durable, l.pending, l.count], .int .i64 k0] w fun e w' => e = .returned (.int .i64 (k0 + wtN Entrant.wt xs)) ∧ MineN entrantSh w' S 108 188 A n c (jqz Entrant.mark Entrant.wt k0 xs) ∧ Only S w w' := by
 go_enter Tryz.func14, Tryz.ntmps14
 go_wp2_with fail
 have K0 := nB w (.cells #[t, b, .slice A n c, l.durable, l.pending, l.count] 35)
 refine (jse S t b A n c xs k0 _ (hM.next K0) h0 h1 hn).mono ?_
 rintro e w1 ⟨rfl, M1, q1⟩
 go_wp2_with fail
 go_ret
 exact ⟨rfl, M1, (Only.of_below K0).trans q1⟩
end Go.Proofs.YtflpcdffmpfdpaaGreatDoor
