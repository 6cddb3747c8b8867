/- Joined texts of this proof: Base, Help1, Nest, PunchT, CardT, EntT, EntM, LogL. -/
import Derived.WalkKit
import Derived.WalkSpells
import Derived.WalkLawsBesides
import Derived.LoopTactic
import Derived.RegionTactic
import Derived.Outline
import Derived.BigQuiet
import Derived.Deep.QuietTactic
import Derived.Deep.AppendLies
import Derived.Lib.Hide
import Derived.KernelRfl
import Derived.Deep.Draws
import Derived.StillTailTactics
import Derived.Deep.RegionHeld3
import Derived.Test.YtflpcdffmpfdpaaGreatDoorChecked
import Derived.Test.YtflpcdffmpfdpaaGreatDoorB01
import Derived.Test.YtflpcdffmpfdpaaGreatDoorB02
set_option maxRecDepth 100000
set_option maxHeartbeats 8000000
namespace Go.Proofs.YtflpcdffmpfdpaaGreatDoor
open Go.RowKit
section
variable {w w' : World} {lo s n : Nat} {A : Option Addr} {cs : List Value}
end
section
variable {α : Type} {enc : α → List Value} {w : World} {lo s n k : Nat} {A : Option Addr} {ds : List α}
end
section
variable {w w' : World} {g : Nat} {t : TypeId} {cs : List Value}
end
theorem jro {B : Nat} {a : World} {g : Nat} (hg : B ≤ g) : ∀ (vs : List Value) {w : World} (_ : Below B a w) (i : Nat), Below B a (jkr w g i vs)
 | [], _, h, _ => h
 | v :: vs, _, h, i => jro hg vs (h.setCell (p := ⟨g, i, none⟩) hg v) (i + 1)
section
variable {α : Type} {enc : α → List Value} {s : Nat} {xs : List α} {k : Nat} {cs : List Value}
theorem Upto.room {w : World} {g : Nat} {t : TypeId} (h : Upto enc s xs k cs) (hB : Blk w g t cs) (hk : k < xs.length) (j : Nat) (hj : j < s) : ∃ u, w.cell? ⟨g, k * s + j, none⟩ = some u := by
 have hle : (k + 1) * s ≤ xs.length * s := Nat.mul_le_mul_right s hk
 rw [Nat.succ_mul] at hle
 have hl := h.len
 have hlt : k * s + j < cs.length := by omega
 exact ⟨_, (hB.cell _).trans (List.getElem?_eq_getElem hlt)⟩
end
theorem jrm {P : Program} {t e : TypeId} {z : Value} {s bytes : Nat} (n : Nat) (ht : P.underlying t = some (.slice e)) (hi : (P.info? e).map (fun i => (i.zero, i.size, i.bytes)) = some (some z, s, bytes)) (hb : bytes * n ≤ 281474976710656) (hn : n ≤ 1000000000000) :
  ∃ zs : List Value, zs.length = n * s ∧ ∀ w : World, (Instr.makeSlice t (.int .i64 (n : Int)) (.int .i64 (n : Int))).run P w = .ok (.slice (some ⟨w.heap.size, 0, none⟩) n n) (w.alloc (.cells zs.toArray e)) := by
 obtain ⟨i0, hi, hz0, hz1, hz2⟩ := info_parts hi
 refine ⟨(madeCells z.cells (n * i0.size)).toList, by simp [size_madeCells, hz1], fun w => ?_⟩
 have := run_make (P := P) w t e i0 z ht hi hz0 .i64 .i64 n n (by omega) (by omega) (by rw [hz2]; have h : ((bytes * n : Nat) : Int) ≤ 281474976710656 := by omega
                                                                                        rwa [Int.natCast_mul] at h) (by omega)
 simpa using this
section
variable {w w' : World} {S T : Nat → Prop} {t s n c : Nat} {A : Option Addr} {cs : List Value}
end
theorem jqx {α : Type} (f : Int → α) (s : Nat) (k : Int) (n : Nat) : (jpm f s k n).length = n := by simp [jpm]
theorem jre {α : Type} (f : Int → α) (s : Nat) (k : Int) (n i : Nat) (h : i < (jpm f s k n).length) : (jpm f s k n)[i] = f (k + (i : Int) * (s : Int)) := by simp [jpm]
def marks (k : Int) (n : Nat) : List Int := (List.range n).map fun i : Nat => k + (i : Int)
section
variable {α : Type} {sh : Sh α} {w w' : World} {lo s n c t ti : Nat} {A : Option Addr} {xs : List α} {S T : Nat → Prop}
end
def jqw {α : Type} (f : Int → α → α) (wt : α → Nat) : Int → List α → List α
 | _, [] => []
 | k, x :: l => f k x :: jqw f wt (k + wt x) l
def wtN {α : Type} (wt : α → Nat) : List α → Nat
 | [] => 0
 | x :: l => wt x + wtN wt l
theorem jrn {α : Type} (wt : α → Nat) (l m : List α) : wtN wt (l ++ m) = wtN wt l + wtN wt m := by
 induction l with
 | nil => simp [wtN]
 | cons x l ih => simp only [List.cons_append, wtN, ih]; omega
theorem jrb {α : Type} (wt : α → Nat) {xs : List α} {k : Nat} (hk : k < xs.length) : wtN wt (xs.take (k + 1)) = wtN wt (xs.take k) + wt xs[k] := by
 rw [List.take_succ_eq_append_getElem hk, jrn]; simp [wtN]
theorem jsz {α : Type} (wt : α → Nat) (xs : List α) (k : Nat) : wtN wt (xs.take k) ≤ wtN wt xs := by
 conv => rhs; rw [← List.take_append_drop k xs, jrn]
 omega
theorem js1 {α : Type} (wt : α → Nat) {xs : List α} {k : Nat} (hk : k < xs.length) : wtN wt (xs.take k) + wt xs[k] ≤ wtN wt xs := by
 rw [← jrb wt hk]; exact jsz _ _ _
theorem jq4 {α : Type} (f : Int → α → α) (wt : α → Nat) : ∀ (k : Int) (l m : List α), jqw f wt k (l ++ m) = jqw f wt k l ++ jqw f wt (k + wtN wt l) m
 | k, [], m => by simp [jqw, wtN]
 | k, x :: l, m => by
  simp only [List.cons_append, jqw, wtN, jq4 f wt (k + wt x) l m]
  rw [show k + ↑(wt x) + ↑(wtN wt l) = k + ↑(wt x + wtN wt l) by omega]
theorem jqy {α : Type} (f : Int → α → α) (wt : α → Nat) : ∀ (k : Int) (l : List α), (jqw f wt k l).length = l.length
 | _, [] => rfl
 | _, _ :: l => by simp [jqw, jqy f wt _ l]
theorem jr8 {α : Type} (f : Int → α → α) (wt : α → Nat) (k0 : Int) {xs : List α} {k : Nat} (hk : k < xs.length) : jqw f wt k0 (xs.take (k + 1)) = jqw f wt k0 (xs.take k) ++ [f (k0 + wtN wt (xs.take k)) xs[k]] := by
 rw [List.take_succ_eq_append_getElem hk, jq4]; rfl
theorem jse {α : Type} (f : Int → α → α) (wt : α → Nat) (k0 : Int) {xs : List α} {k : Nat} (hk : k < xs.length) (h : k < (jqw f wt k0 xs).length) : (jqw f wt k0 xs)[k] = f (k0 + wtN wt (xs.take k)) xs[k] := by
 have e : jqw f wt k0 xs = jqw f wt k0 (xs.take k) ++ f (k0 + wtN wt (xs.take k)) xs[k] :: jqw f wt (k0 + wtN wt (xs.take k) + wt xs[k]) (xs.drop (k + 1)) := by
  conv => lhs; rw [← List.take_append_drop k xs, List.drop_eq_getElem_cons hk, jq4]
  rfl
 have hl : (jqw f wt k0 (xs.take k)).length = k := by rw [jqy, List.length_take]; omega
 simp only [e]
 rw [List.getElem_append_right (by omega)]
 simp [hl]
theorem jr2 {α : Type} (vs cs : List α) (i : Nat) (h : i + vs.length ≤ cs.length) : (jey cs i vs).take (i + vs.length) = cs.take i ++ vs := by
 refine List.ext_getElem? fun j => ?_
 rw [List.getElem?_take]
 by_cases hj : j < i + vs.length
 ·rw [if_pos hj, jfr _ _ _ _ h]
  by_cases h1 : i ≤ j
  ·rw [if_pos ⟨h1, hj⟩, List.getElem?_append_right (by rw [List.length_take]; omega)]
   congr 1
   rw [List.length_take]; omega
  ·rw [if_neg (by omega), List.getElem?_append_left (by rw [List.length_take]; omega), List.getElem?_take, if_pos (by omega)]
 ·rw [if_neg hj, List.getElem?_eq_none (by simp; omega)]
section
variable {α : Type} {sh : Sh α} {w w' : World} {lo s n c t ti : Nat} {A : Option Addr} {xs : List α} {S T : Nat → Prop} {rs : List (Hd α)}
theorem js2 {β : Type} (A B : List β) (x y : β) (k : Nat) (h : A.length = k) : (A ++ x :: B).set k y = (A ++ [y]) ++ B := by
 subst h
 rw [List.set_append_right _ _ (Nat.le_refl _)]
 simp
theorem jr6 {g k : Nat} {y : α} (hk : k < rs.length) (h : ∀ r ∈ rs, ¬ jaj r.A g) : ∀ r ∈ rs.set k ⟨y, rs[k].A, rs[k].n, rs[k].c⟩, ¬ jaj r.A g := by
 intro r hr
 rcases List.mem_or_eq_of_mem_set hr with hr | rfl
 ·exact h r hr
 ·exact h rs[k] (List.getElem_mem hk)
theorem jr7 {f : Int → α → α} {wt : α → Nat} {k0 : Int} {k : Nat} (hk : k < rs.length) (hkx : k < xs.length) (h : rs.map Hd.x = jqw f wt k0 (xs.take k) ++ xs.drop k) :
  (rs.set k ⟨f (k0 + wtN wt (xs.take k)) xs[k], rs[k].A, rs[k].n, rs[k].c⟩).map Hd.x = jqw f wt k0 (xs.take (k + 1)) ++ xs.drop (k + 1) := by
 rw [List.map_set, h, List.drop_eq_getElem_cons hkx, js2 _ _ _ _ k (by rw [jqy, List.length_take]; omega), jr8 _ _ _ hkx]
end
theorem jr9 (a0 a1 : Int) (w : World) : Calls Tryz.prog 229 #[.agg #[a0, a1]] w fun e w' => e = .returned (.agg #[a0, a1]) ∧ Below w.heap.size w w' := by
 go_enter Tryz.func229, Tryz.ntmps229
 go_wp2
 exact bodyPost_ret (v := .agg #[a0, a1]) (by simp [results, Tryz.results229, go_sem]) rfl ⟨rfl, (((Below.refl _ _).alloc (Nat.le_refl _) _).alloc (by simp) _).alloc (by simp; omega) _⟩
theorem jr3 (A : Option Addr) (n c : Nat) (xs : List Punch) (w : World) (hx : Sees w 0 2 A n (xs.flatMap Punch.enc)) (hn : n ≤ 1048576) :
  Calls Tryz.prog 203 #[.slice A n c] w fun e w' => ∃ A', e = .returned (.slice A' n n) ∧ w'.ownsRow w.heap.size 188 2 (.slice A' n n) n (xs.flatMap Punch.enc) ∧ Below w.heap.size w w' := by
 have hl := hx.count (by decide) (fun _ => rfl)
 obtain ⟨zs, hzs, hmk⟩ := jrm (P := Tryz.prog) n Tryz.underlying104 jbg (by omega) (by omega)
 go_enter Tryz.func203, Tryz.ntmps203
 go_wp2
 have hB := Blk.new w 188 zs
 have hb0 := nB w (.cells zs.toArray 188)
 clear hmk
 go_loopw [4] (fun v wr => ∃ (k : Nat) (cs : List Value), k ≤ n ∧ v = .int .i64 k ∧ Blk wr w.heap.size 188 cs ∧ cs.length = n * 2 ∧ Upto Punch.enc 2 xs k cs ∧ Below w.heap.size w wr) (fun v _ => n - (intOf v).toNat)
 case atStart => exact ⟨0, zs, Nat.zero_le _, rfl, hB, hzs, Upto.zero (by rw [hzs, hl]; exact Nat.le_refl _), hb0⟩
 case round =>
  obtain ⟨k, cs, hk, rfl, hB, hcl, hu, hb⟩ := hrel
  by_cases hlt : k < n
  ·obtain ⟨b, off, rfl, hkx, c0, c1⟩ := (hx.next hb).elem2 (fun _ => rfl) hlt
   go_wp2_with fail
   refine (jr9 _ _ _).mono ?_
   rintro e w1 ⟨rfl, hb1⟩
   have hB1 := hB.next hb1
   obtain ⟨v0, s0⟩ := hu.room hB1 hkx 0 (by decide)
   obtain ⟨v1, s1⟩ := hu.room hB1 hkx 1 (by decide)
   rw [Nat.add_zero] at s0
   have hf := hB1.frozen
   go_wp2
   go_roundw
   case rel => exact ⟨k + 1, _, by omega, by go_num, hB1.many (Punch.enc xs[k]) (k * 2), (jfg _ _ _).trans hcl, hu.step (fun _ => rfl) hkx, jro (Nat.le_refl _) (Punch.enc xs[k]) (jaa hb hb1) (k * 2)⟩
   case measure => simp [intOf]; omega
  ·go_wp2
   go_ret
   have hcs := hu.all (fun _ => rfl) (by omega)
   rw [hl] at hcs
   exact ⟨_, rfl, jci (Nat.le_refl _) hB hcl (Nat.le_refl _) (by simp only [maxLen]; omega) hcs, hb⟩
theorem jr4 (a0 a1 : Int) (w : World) : Calls Tryz.prog 243 #[.agg #[a0, a1], .agg #[a0, a1]] w fun e w' => e = .returned (.bool true) ∧ Below w.heap.size w w' := by
 go_enter Tryz.func243, Tryz.ntmps243
 go_wp2
 go_ret
 exact ⟨rfl, ((Below.refl _ _).alloc (Nat.le_refl _) _).alloc (by simp) _⟩
theorem jrw (A A' : Option Addr) (n n' c c' lo lo' : Nat) (xs ys : List Punch) (w : World) (hx : Sees w lo 2 A n (xs.flatMap Punch.enc)) (hy : Sees w lo' 2 A' n' (ys.flatMap Punch.enc)) (he : xs = ys) (hn : n ≤ 140737488355328) :
  Calls Tryz.prog 221 #[.slice A n c, .slice A' n' c'] w fun e w' => e = .returned (.bool true) ∧ Below w.heap.size w w' := by
 subst he
 have hl := hx.count (by decide) (fun _ => rfl)
 have hl' := hy.count (by decide) (fun _ => rfl)
 obtain rfl : n = n' := by omega
 go_enter Tryz.func221, Tryz.ntmps221
 go_wp2_with fail
 go_loopw [5] (fun v wr => ∃ k : Nat, k ≤ n ∧ v = .int .i64 k ∧ Below w.heap.size w wr) (fun v _ => n - (intOf v).toNat)
 case atStart => exact ⟨0, Nat.zero_le _, rfl, Below.refl _ _⟩
 case round =>
  obtain ⟨k, hk, rfl, hb⟩ := hrel
  by_cases hlt : k < n
  ·obtain ⟨b, off, rfl, hkx, c0, c1⟩ := (hx.next hb).elem2 (fun _ => rfl) hlt
   obtain ⟨b', off', rfl, hky, d0, d1⟩ := (hy.next hb).elem2 (fun _ => rfl) hlt
   go_wp2_with fail
   refine wp_region_still_tail 8 (by kernel_rfl) (by kernel_rfl) ?_
   simp only [List.take_succ_cons, List.take_zero, List.drop_succ_cons, List.drop_zero]
   change wpStill _ _ wr.drew _ _ _
   repeat still_step
   refine wpStill_nil ?_
   change wpList _ _ _ _ _ wr.drew
   have hb' := ja3 hb (Quiet.one wr)
   generalize wr.drew = w2 at *
   go_wp2_with fail
   refine (jr4 _ _ _).mono ?_
   rintro e w1 ⟨rfl, hb1⟩
   go_wp2
   go_roundw
   case rel => exact ⟨k + 1, by omega, by go_num, jaa hb' hb1⟩
   case measure => simp [intOf]; omega
  ·go_wp2
   go_ret
   exact ⟨rfl, hb⟩
theorem jrj (S : Nat → Prop) (t n c : Nat) (A : Option Addr) (xs : List Punch) (k0 : Int) (w : World) (hM : Mine w S t 2 A n c (xs.flatMap Punch.enc)) (h0 : 0 ≤ k0) (h1 : k0 ≤ 1000000000000) (hn : n ≤ 140737488355328) :
  Calls Tryz.prog 144 #[.slice A n c, .int .i64 k0] w fun e w' => e = .returned (.int .i64 (k0 + n * 2)) ∧ Mine w' S t 2 A n c ((jpm Punch.mark 2 k0 n).flatMap Punch.enc) ∧ Only S w w' := by
 obtain ⟨hown, htop⟩ := hM
 rcases jby hown with ⟨rfl, rfl, rfl, hxs⟩ | ⟨g, cur, rfl, hg, hB, hcl, hnc, hcm, htk⟩
 ·go_enter Tryz.func144, Tryz.ntmps144
  go_wp2
  refine wp_loop_rounds 1 ?_
  rw [rounds_succ]
  go_wp2
  go_ret
  exact ⟨by simp, ⟨World.ownsRow_nil _ _ _ _, htop⟩, Only.refl _ _⟩
 ·have hS : S g := htop g rfl
  have hcl' : n * 2 ≤ cur.length := by omega
  clear hown htk
  go_enter Tryz.func144, Tryz.ntmps144
  go_wp2
  go_loopw [1, 5] (fun q v wr => ∃ (k : Nat) (cs : List Value), k ≤ n ∧ q = .int .i64 (k0 + k * 2) ∧ v = .int .i64 k ∧ Blk wr g t cs ∧ cs.length = c * 2 ∧ Upto Punch.enc 2 (jpm Punch.mark 2 k0 n) k cs ∧ Only S w wr) (fun _ v _ => n - (intOf v).toNat)
  case atStart => exact ⟨0, _, Nat.zero_le _, by simp, rfl, hB, hcl, Upto.zero (by rw [jqx]; exact hcl'), Only.refl _ _⟩
  case round =>
   obtain ⟨k, cs, hk, rfl, rfl, hB, hcl, hu, ho⟩ := hrel
   by_cases hlt : k < n
   ·have hkx : k < (jpm Punch.mark 2 k0 n).length := by rw [jqx]; omega
    obtain ⟨v0, s0⟩ := hu.room hB hkx 0 (by decide)
    obtain ⟨v1, s1⟩ := hu.room hB hkx 1 (by decide)
    rw [Nat.add_zero] at s0
    have hf := hB.frozen
    go_wp2
    go_roundw
    case rel => exact ⟨k + 1, _, by omega, by go_num, by go_num, hB.many (Punch.enc (Punch.mark (k0 + k * 2))) (k * 2), (jfg _ _ _).trans hcl, by have h := hu.step (fun _ => rfl) hkx; rw [jre] at h; exact h, Only.many hS (Punch.enc (Punch.mark (k0 + k * 2))) ho (k * 2)⟩
    case measure => simp [intOf]; omega
   ·go_wp2
    go_ret
    obtain rfl : k = n := by omega
    have hcs := hu.all (fun _ => rfl) (by rw [jqx])
    rw [jqx] at hcs
    exact ⟨rfl, ⟨jci hg hB hcl hnc hcm hcs, htop⟩, ho⟩
theorem jri (lo n c : Nat) (A : Option Addr) (k0 : Int) (w : World) (hx : Sees w lo 2 A n ((jpm Punch.mark 2 k0 n).flatMap Punch.enc)) (h0 : 0 ≤ k0) (h1 : k0 ≤ 1000000000000) (hn : n ≤ 140737488355328) :
  Calls Tryz.prog 145 #[.slice A n c, .int .i64 k0] w fun e w' => e = .returned (.int .i64 (k0 + n * 2)) ∧ Quiet w w' := by
 go_enter Tryz.func145, Tryz.ntmps145
 go_wp2
 go_loopw [1, 5] (fun q v wr => ∃ k : Nat, k ≤ n ∧ q = .int .i64 (k0 + k * 2) ∧ v = .int .i64 k ∧ Quiet w wr) (fun _ v _ => n - (intOf v).toNat)
 case atStart => exact ⟨0, Nat.zero_le _, by simp, rfl, Quiet.refl _⟩
 case round =>
  obtain ⟨k, hk, rfl, rfl, hq⟩ := hrel
  by_cases hlt : k < n
  ·obtain ⟨b, off, rfl, hkx, c0, c1⟩ := (hx.quiet hq).elem2 (fun _ => rfl) hlt
   rw [jre] at c0 c1
   simp only [Punch.mark] at c0 c1
   go_wp2
   go_roundw
   case rel => exact ⟨k + 1, by omega, by go_num, by go_num, hq⟩
   case measure => simp [intOf]; omega
  ·go_wp2
   go_ret
   obtain rfl : k = n := by omega
   exact ⟨rfl, hq⟩
theorem jst {α : Type} (f : α → Nat) {x : α} : ∀ {l : List α} (_ : x ∈ l), f x ≤ wtN f l
 | y :: l, h => by
  rcases List.mem_cons.1 h with rfl | h
  ·simp only [wtN]; omega
  ·have := jst f h; simp only [wtN]; omega
def Card.wt (x : Card) : Nat := x.punches.length * 2 + 3
theorem jsi (A : Option Addr) (n c lo : Nat) (x : Card) (w : World) (hx : Sees w lo 2 A n (x.punches.flatMap Punch.enc)) (hn : n ≤ 1048576) :
  Calls Tryz.prog 170 #[.agg #[(.int .i64 x.number), (.int .i64 x.start), (.int .i64 x.finish), (.slice A n c)]] w fun e w' => ∃ B1, e = .returned (.agg #[(.int .i64 x.number), (.int .i64 x.start), (.int .i64 x.finish), (.slice B1 n n)]) ∧ Mine w' (In (w.heap.size + 1) w'.heap.size) 188 2 B1 n n (x.punches.flatMap Punch.enc) ∧ Below w.heap.size w w' := by
 go_enter Tryz.func170, Tryz.ntmps170
 go_wp2_with fail
 have K0 : Below w.heap.size w _ := (((Below.refl w.heap.size w).alloc (Nat.le_refl _) (.cells #[(.int .i64 x.number), (.int .i64 x.start), (.int .i64 x.finish), (.slice A n c)] 154)).alloc (by simp) (.cells #[.int .i64 0, .int .i64 0, .int .i64 0, .slice none 0 0] 106)).alloc (by simp; omega) (.cells #[(.int .i64 x.number), (.int .i64 x.start), (.int .i64 x.finish), .slice none 0 0] 106)
 refine (jr3 _ _ _ _ _ ((hx.less (Nat.zero_le _)).next K0) hn).mono ?_
 rintro e w1 ⟨B1, rfl, o1, b1⟩
 have K1 := jaa K0 b1
 have z1 : w.heap.size + 1 + 1 + 1 ≤ w1.heap.size := by have := b1.size; simpa using this
 have R1 : Blk w1 (w.heap.size + 1) 106 [.int .i64 0, .int .i64 0, .int .i64 0, .slice none 0 0] := ((Blk.at_ (by simp)).alloc _).next b1
 have L1 : Blk w1 (w.heap.size + 1 + 1) 106 [(.int .i64 x.number), (.int .i64 x.start), (.int .i64 x.finish), .slice none 0 0] := (Blk.at_ (by simp)).next b1
 have P1 : Blk w1 w.heap.size 154 [(.int .i64 x.number), (.int .i64 x.start), (.int .i64 x.finish), (.slice A n c)] := (((Blk.at_ rfl).alloc _).alloc _).next b1
 have p1 := P1.cell
 have l1 := L1.cell
 have lf1 := L1.frozen
 have r1 := R1.cell
 have rf1 := R1.frozen
 go_wp2_with fail
 have RF := (((((R1.far (p := ⟨w.heap.size + 1 + 1, 3, none⟩) (by simp) (.slice B1 n n)).set_ 0 (.int .i64 x.number)).set_ 1 (.int .i64 x.start)).set_ 2 (.int .i64 x.finish)).set_ 3 (.slice B1 n n))
 have O3 := ((((((Only.refl (fun b => b = w.heap.size + 1 ∨ b = w.heap.size + 1 + 1) w1).setCell (p := ⟨w.heap.size + 1 + 1, 3, none⟩) (.inr rfl) (.slice B1 n n)).setCell (p := ⟨w.heap.size + 1, 0, none⟩) (.inl rfl) (.int .i64 x.number)).setCell (p := ⟨w.heap.size + 1, 1, none⟩) (.inl rfl) (.int .i64 x.start)).setCell (p := ⟨w.heap.size + 1, 2, none⟩) (.inl rfl) (.int .i64 x.finish)).setCell (p := ⟨w.heap.size + 1, 3, none⟩) (.inl rfl) (.slice B1 n n))
 have M1 := (Mine.of o1).only O3 (fun b h1 h2 => by have := h1.1; simp at this; rcases h2 with h2 | h2 <;> omega)
 have zF := O3.size
 refine bodyPost_ret (results_cell_row rfl _ _ (w.heap.size + 1) _ _ (0, 0) _ rfl RF Tryz.underlying106 rfl (by kernel_rfl)) rfl ⟨B1, rfl, M1.wide ?_, ?_⟩
 ·intro b hb
  have h1 := hb.1
  have h2 := hb.2
  simp at h1
  exact ⟨by omega, by omega⟩
 ·exact K1.trans (O3.below (fun k hk => by rcases hk with hk | hk <;> omega) (by omega))
theorem jru (A : Option Addr) (n c : Nat) (left : Int) (w : World) (hn : n ≤ 9223372036854775807) (hl : 0 ≤ left) (hl' : left ≤ 1048576) :
  Calls Tryz.prog 198 #[.slice A n c, .int .i64 left] w fun e w' => ∃ l : Int, e = .returned (.int .i64 l) ∧ w = w' ∧ (l = -1 ∨ 0 ≤ l ∧ l = left - n) := by
 by_cases hlt : left - n < 0
 ·go_enter Tryz.func198, Tryz.ntmps198
  go_wp2
  go_ret
  exact ⟨_, rfl, rfl, .inl rfl⟩
 ·go_enter Tryz.func198, Tryz.ntmps198
  go_wp2
  go_ret
  exact ⟨_, rfl, rfl, .inr ⟨by omega, rfl⟩⟩
theorem jsg (A : Option Addr) (n c : Nat) (x : Card) (left : Int) (w : World) (hn : n ≤ 9223372036854775807) (hl : 0 ≤ left) (hl' : left ≤ 1048576) :
  Calls Tryz.prog 157 #[.agg #[(.int .i64 x.number), (.int .i64 x.start), (.int .i64 x.finish), (.slice A n c)], .int .i64 left] w fun e w' => ∃ l : Int, e = .returned (.int .i64 l) ∧ Below w.heap.size w w' ∧ (l = -1 ∨ 0 ≤ l ∧ l = left - n) := by
 go_enter Tryz.func157, Tryz.ntmps157
 go_wp2_with fail
 refine (jru _ _ _ _ _ hn hl hl').mono ?_
 rintro e w' ⟨l1, rfl, rfl, rfl | h1⟩
 ·go_wp2_with fail
  go_ret
  exact ⟨_, rfl, (Below.refl _ _).alloc (Nat.le_refl _) _, .inl rfl⟩
 ·go_wp2_with fail
  go_ret
  exact ⟨_, rfl, (Below.refl _ _).alloc (Nat.le_refl _) _, .inr (by omega)⟩
theorem jsb (A B : Option Addr) (n n' c c' lo lo' : Nat) (x y : Card) (w : World) (hx : Sees w lo 2 A n (x.punches.flatMap Punch.enc)) (hy : Sees w lo' 2 B n' (y.punches.flatMap Punch.enc)) (he : x = y) (hn : n ≤ 1048576) :
  Calls Tryz.prog 186 #[.agg #[(.int .i64 x.number), (.int .i64 x.start), (.int .i64 x.finish), (.slice A n c)], .agg #[(.int .i64 y.number), (.int .i64 y.start), (.int .i64 y.finish), (.slice B n' c')]] w fun e w' => e = .returned (.bool true) ∧ Below w.heap.size w w' := by
 subst he
 go_enter Tryz.func186, Tryz.ntmps186
 go_wp2_with fail
 have K0 : Below w.heap.size w _ := ((Below.refl w.heap.size w).alloc (Nat.le_refl _) (.cells #[(.int .i64 x.number), (.int .i64 x.start), (.int .i64 x.finish), (.slice A n c)] 106)).alloc (by simp) (.cells #[(.int .i64 x.number), (.int .i64 x.start), (.int .i64 x.finish), (.slice B n' c')] 106)
 refine (jrw _ _ _ _ _ _ _ _ _ _ _ (hx.next K0) (hy.next K0) rfl (by omega)).mono ?_
 rintro e w1 ⟨rfl, b1⟩
 have K1 := jaa K0 b1
 have P1 : Blk w1 w.heap.size 106 [(.int .i64 x.number), (.int .i64 x.start), (.int .i64 x.finish), (.slice A n c)] := ((Blk.at_ rfl).alloc _).next b1
 have P2 : Blk w1 (w.heap.size + 1) 106 [(.int .i64 x.number), (.int .i64 x.start), (.int .i64 x.finish), (.slice B n' c')] := (Blk.at_ (by simp)).next b1
 have p1 := P1.cell
 have p2 := P2.cell
 go_wp2_with fail
 go_ret
 exact ⟨rfl, K1⟩
def Entrant.wt (x : Entrant) : Nat := x.punches.length * 2 + 4
theorem jrq (A B : Option Addr) (n n' c c' lo lo' : Nat) (x y : Entrant) (w : World) (hx : Sees w lo 2 A n (x.punches.flatMap Punch.enc)) (hy : Sees w lo' 2 B n' (y.punches.flatMap Punch.enc)) (he : x = y) (hn : n ≤ 1048576) :
  Calls Tryz.prog 143 #[.agg #[x.state, x.number, x.start, x.finish, .slice A n c], .agg #[y.state, y.number, y.start, y.finish, .slice B n' c']] w fun e w' => e = .returned (.bool true) ∧ Below w.heap.size w w' := by
 subst he
 go_enter Tryz.func143, Tryz.ntmps143
 go_wp2_with fail
 have K0 : Below w.heap.size w _ := ((Below.refl w.heap.size w).alloc (Nat.le_refl _) (.cells #[x.state, x.number, x.start, x.finish, .slice A n c] 108)).alloc (by simp) (.cells #[x.state, x.number, x.start, x.finish, .slice B n' c'] 108)
 refine (jsb _ _ _ _ c c' _ _ x.card x.card _ (hx.next K0) (hy.next K0) rfl hn).mono ?_
 rintro e w1 ⟨rfl, b1⟩
 have K1 := jaa K0 b1
 go_wp2_with fail
 go_ret
 exact ⟨rfl, K1⟩
theorem jrh (A A' : Option Addr) (n n' c c' lo lo' : Nat) (xs ys : List Entrant) (w : World) (hx : SeesN entrantSh w lo A n xs) (hy : SeesN entrantSh w lo' A' n' ys) (he : xs = ys) (hn : n ≤ 140737488355328) (hi : ∀ x ∈ xs, x.cnt ≤ 1048576) :
  Calls Tryz.prog 100 #[.slice A n c, .slice A' n' c'] w fun e w' => e = .returned (.bool true) ∧ Below w.heap.size w w' := by
 subst he
 have hl := hx.count
 have hl' := hy.count
 obtain rfl : n = n' := by omega
 go_enter Tryz.func100, Tryz.ntmps100
 go_wp2_with fail
 go_loopw [5] (fun v wr => ∃ k : Nat, k ≤ n ∧ v = .int .i64 k ∧ Below w.heap.size w wr) (fun v _ => n - (intOf v).toNat)
 case atStart => exact ⟨0, Nat.zero_le _, rfl, Below.refl _ _⟩
 case round =>
  obtain ⟨k, hk, rfl, hb⟩ := hrel
  by_cases hlt : k < n
  ·obtain ⟨b, off, B0, m, cc0, rfl, hkx, c0, c1, c2, c3, c4, hxi⟩ := SeesEntrant.elem (hx.next hb) hlt
   obtain ⟨b', off', B0', m', cc1, rfl, hky, d0, d1, d2, d3, d4, hyi⟩ := SeesEntrant.elem (hy.next hb) hlt
   have hm : m ≤ 1048576 := by
    have h1 := hi xs[k] (List.getElem_mem hkx)
    have h2 := hxi.count (by decide) (fun _ => rfl)
    unfold Entrant.cnt at h1
    omega
   have hb' := ja3 hb (Quiet.one wr)
   replace hxi := hxi.quiet (Quiet.one wr)
   replace hyi := hyi.quiet (Quiet.one wr)
   go_wp2_with fail
   refine wp_region_still_tail 8 (by kernel_rfl) (by kernel_rfl) ?_
   simp only [List.take_succ_cons, List.take_zero, List.drop_succ_cons, List.drop_zero]
   change wpStill _ _ wr.drew _ _ _
   repeat still_step
   refine wpStill_nil ?_
   change wpList _ _ _ _ _ wr.drew
   generalize wr.drew = w2 at *
   go_wp2_with fail
   refine (jrq _ _ _ _ cc0 cc1 _ _ xs[k] xs[k] _ hxi hyi rfl hm).mono ?_
   rintro e w1 ⟨rfl, hb1⟩
   go_wp2_with fail
   go_roundw
   case rel => exact ⟨k + 1, by omega, by go_num, jaa hb' hb1⟩
   case measure => simp [intOf]; omega
  ·go_wp2_with fail
   go_ret
   exact ⟨rfl, hb⟩
theorem jq9 (lo n c : Nat) (A : Option Addr) (xs : List Entrant) (k0 : Int) (w : World) (hx : SeesN entrantSh w lo A n (jqw Entrant.mark Entrant.wt k0 xs)) (h0 : 0 ≤ k0) (h1 : k0 + wtN Entrant.wt xs ≤ 1000000000) (hn : n ≤ 1048576) :
  Calls Tryz.prog 102 #[.slice A n c, .int .i64 k0] w fun e w' => e = .returned (.int .i64 (k0 + wtN Entrant.wt xs)) ∧ Quiet w w' := by
 have hl := hx.count
 rw [jqy] at hl
 go_enter Tryz.func102, Tryz.ntmps102
 go_wp2_with fail
 go_loopw [1, 5] (fun q v wr => ∃ k : Nat, k ≤ n ∧ q = .int .i64 (k0 + wtN Entrant.wt (xs.take k)) ∧ v = .int .i64 k ∧ Quiet w wr) (fun _ v _ => n - (intOf v).toNat)
 case atStart => exact ⟨0, Nat.zero_le _, by simp [wtN], rfl, Quiet.refl _⟩
 case round =>
  obtain ⟨k, hk, rfl, rfl, hq⟩ := hrel
  by_cases hlt : k < n
  ·obtain ⟨b, off, B0, m, cc0, rfl, hkx, c0, c1, c2, c3, c4, hxi⟩ := SeesEntrant.elem (hx.quiet hq) hlt
   have hkx' : k < xs.length := by omega
   have hwa := js1 Entrant.wt hkx'
   have hwn := Lib.hid (jrb Entrant.wt hkx')
   simp only [jse _ _ _ hkx', Entrant.mark] at c0 c1 c2 c3 c4 hxi
   have hm : m = xs[k].punches.length := by
    have h2 := hxi.count (by decide) (fun _ => rfl)
    simp only [jqx] at h2
    omega
   have hw1 : Entrant.wt xs[k] = m * 2 + 4 := by unfold Entrant.wt; rw [hm]
   rw [← hm] at hxi
   clear hm
   generalize hK : k0 + (wtN Entrant.wt (xs.take k) : Int) = K at *
   have hK1 := Lib.hid hK
   have hb1 : 0 ≤ K ∧ K ≤ 1000000000 - (m * 2 + 4) := by omega
   clear hK
   go_wp2_with fail
   refine (jri _ _ _ _ _ _ hxi (by omega) (by omega) (by omega)).mono ?_
   rintro e w1 ⟨rfl, q1⟩

   have hnn : ¬ (K + 1 + 1 + 1 + 1 + ↑m * 2 < 0) := by omega
   have hq1 := hq.trans q1
   go_wp2_with fail
   go_roundw
   case rel => exact ⟨k + 1, by omega, by have e1 := hwn.out; have e2 := hK1.out; congr 1; omega, by go_num, hq1⟩
   case measure => simp [intOf]; omega
  ·obtain rfl : k = n := by omega
   rw [List.take_of_length_le (by omega)]
   go_wp2_with fail
   go_ret
   exact ⟨rfl, hq⟩
theorem jra (S : Nat → Prop) (n c : Nat) (A : Option Addr) (xs : List Entrant) (k0 : Int) (w : World) (hM : MineN entrantSh w S 108 188 A n c xs) (h0 : 0 ≤ k0) (h1 : k0 + wtN Entrant.wt xs ≤ 1000000000) (hn : n ≤ 1048576) :
  Calls Tryz.prog 101 #[.slice A n c, .int .i64 k0] w fun e w' => e = .returned (.int .i64 (k0 + wtN Entrant.wt xs)) ∧ MineN entrantSh w' S 108 188 A n c (jqw Entrant.mark Entrant.wt k0 xs) ∧ Only S w w' := by
 have hl := hM.count
 obtain ⟨rs0, hrs0, hM⟩ := hM
 rcases jby hM.outer.own with ⟨rfl, rfl, rfl, hxs⟩ | ⟨g, cur, rfl, hg, hB, hcl, hnc, hcm, htk⟩
 ·have hx0 : xs = [] := List.length_eq_zero_iff.1 hl
  subst hx0
  go_enter Tryz.func101, Tryz.ntmps101
  go_wp2_with fail
  refine wp_loop_rounds 1 ?_
  rw [rounds_succ]
  go_wp2_with fail
  go_ret
  exact ⟨by simp [wtN], MineN.nil _ _ _ _, Only.refl _ _⟩
 ·have hS : S g := hM.outer.top g rfl
  have hag : ∀ r ∈ rs0, ¬ jaj r.A g := fun r hr hb => hM.apart r hr g hb rfl
  have hl0 : rs0.length = n := by rw [← hl, ← hrs0, List.length_map]
  have hin0 := hM.inners
  have hcl' : n * 5 ≤ cur.length := by rw [hcl]; exact Nat.mul_le_mul_right _ hnc
  clear hM
  go_enter Tryz.func101, Tryz.ntmps101
  go_wp2_with fail
  go_loopw [1, 5] (fun q v wr => ∃ (k : Nat) (cs : List Value) (rs : List (Hd Entrant)), k ≤ n ∧ q = .int .i64 (k0 + wtN Entrant.wt (xs.take k)) ∧ v = .int .i64 k ∧ Blk wr g 108 cs ∧ cs.length = c * 5 ∧ Hid (rs.map Hd.x = jqw Entrant.mark Entrant.wt k0 (xs.take k) ++ xs.drop k) ∧ rs.length = n ∧ cs.take (n * 5) = rs.flatMap entrantSh.enc ∧ Inners entrantSh wr S 188 rs ∧ (∀ r ∈ rs, ¬ jaj r.A g) ∧ Only S w wr) (fun _ v _ => n - (intOf v).toNat)
  case atStart => exact ⟨0, _, rs0, Nat.zero_le _, by simp [wtN], rfl, hB, hcl, Lib.hid (by simpa [jqw] using hrs0), hl0, htk, hin0, hag, Only.refl _ _⟩
  case round =>
   obtain ⟨k, cs, rs, hk, rfl, rfl, hB, hcl, HR, hrl, hcs, hin, hag, ho⟩ := hrel
   by_cases hlt : k < n
   ·have hkx : k < xs.length := by omega
    have hkr : k < rs.length := by omega
    have hrk : rs[k].x = xs[k] := by
     have h2 : (rs.map Hd.x)[k]'(by simpa using hkr) = xs[k] := by
      simp only [HR.out]
      have hlm : (jqw Entrant.mark Entrant.wt k0 (xs.take k)).length = k := by rw [jqy, List.length_take]; omega
      rw [List.getElem_append_right (by omega)]
      simp [hlm]
     simpa using h2
    have hmi := (hin.each rs[k] (List.getElem_mem hkr))
    rw [hrk] at hmi
    have hagk := hag rs[k] (List.getElem_mem hkr)
    have hsl := hB.cell (k * 5 + 4)
    have hsl2 : cs[k * 5 + 4]? = some (.slice rs[k].A rs[k].n rs[k].c) := by
     have h2 := jit (sh := entrantSh) rs k 4 hkr (by decide)
     rw [show (entrantSh.enc rs[k])[4]? = some (Value.slice rs[k].A rs[k].n rs[k].c) from rfl, ← hcs, List.getElem?_take, if_pos (by show k * 5 + 4 < n * 5; omega)] at h2
     exact h2
    rw [hsl2] at hsl
    have hcnt := hmi.sees.count (by decide) (fun _ => rfl)
    have hwa := js1 Entrant.wt hkx
    have hwn := Lib.hid (jrb Entrant.wt hkx)
    have hw1 : Entrant.wt xs[k] = rs[k].n * 2 + 4 := by unfold Entrant.wt; rw [hcnt]
    have hlt4 : k * 5 + 5 ≤ cs.length := by rw [hcl]; omega
    have HRk := Lib.hid (show rs.set k ⟨Entrant.mark (k0 + wtN Entrant.wt (xs.take k)) xs[k], rs[k].A, rs[k].n, rs[k].c⟩ = rs.set k ⟨Entrant.mark (k0 + wtN Entrant.wt (xs.take k)) xs[k], rs[k].A, rs[k].n, rs[k].c⟩ from rfl)
    have hfz := hB.frozen
    generalize hK : k0 + (wtN Entrant.wt (xs.take k) : Int) = K at *
    generalize hm : rs[k].n = m at *
    generalize hrA : rs[k].A = Ak at *
    generalize hrc : rs[k].c = ck at *
    obtain ⟨v0, s0⟩ : ∃ u, wr.cell? ⟨g, k * 5, none⟩ = some u := ⟨_, (hB.cell _).trans (List.getElem?_eq_getElem (by omega))⟩
    obtain ⟨v1, s1⟩ : ∃ u, wr.cell? ⟨g, k * 5 + 1, none⟩ = some u := ⟨_, (hB.cell _).trans (List.getElem?_eq_getElem (by omega))⟩
    obtain ⟨v2, s2⟩ : ∃ u, wr.cell? ⟨g, k * 5 + 2, none⟩ = some u := ⟨_, (hB.cell _).trans (List.getElem?_eq_getElem (by omega))⟩
    obtain ⟨v3, s3⟩ : ∃ u, wr.cell? ⟨g, k * 5 + 3, none⟩ = some u := ⟨_, (hB.cell _).trans (List.getElem?_eq_getElem (by omega))⟩
    have hK1 := Lib.hid hK
    have HA := Lib.hid hrA
    have HM := Lib.hid hm
    have HC := Lib.hid hrc
    have HX := Lib.hid hrk
    have H2 := Lib.hid hsl2
    have HCN := Lib.hid hcnt
    have hb1 : 0 ≤ K ∧ K ≤ 1000000000 - (m * 2 + 4) := by omega
    have hm2 : m * 2 ≤ 1000000000 := by omega
    clear hK hrA hm hrc hrk hsl2 hcnt
    go_wp2_with fail
    have B1 := ((((hB.set_ (k * 5) (.int .i64 (K))).set_ (k * 5 + 1) (.int .i64 (K + 1))).set_ (k * 5 + 2) (.int .i64 (K + 1 + 1))).set_ (k * 5 + 3) (.int .i64 (K + 1 + 1 + 1)))
    have O1 := ((((ho.setCell (p := ⟨g, k * 5, none⟩) hS (.int .i64 (K))).setCell (p := ⟨g, k * 5 + 1, none⟩) hS (.int .i64 (K + 1))).setCell (p := ⟨g, k * 5 + 2, none⟩) hS (.int .i64 (K + 1 + 1))).setCell (p := ⟨g, k * 5 + 3, none⟩) hS (.int .i64 (K + 1 + 1 + 1)))
    refine (jrj _ _ _ _ _ _ (K + 1 + 1 + 1 + 1) _ (hmi.exact_.only (T := fun b => b = g) ((((((Only.refl (fun b => b = g) wr).setCell (p := ⟨g, k * 5, none⟩) rfl (.int .i64 (K))).setCell (p := ⟨g, k * 5 + 1, none⟩) rfl (.int .i64 (K + 1))).setCell (p := ⟨g, k * 5 + 2, none⟩) rfl (.int .i64 (K + 1 + 1))).setCell (p := ⟨g, k * 5 + 3, none⟩) rfl (.int .i64 (K + 1 + 1 + 1)))) (fun b h2 h3 => hagk (h3 ▸ h2))) (by omega) (by omega) (by omega)).mono ?_
    rintro e w1 ⟨rfl, M1, q1⟩
    have B2 := B1.only q1 hagk
    have O2 := O1.trans (q1.mono hmi.top)
    have hfz2 := B2.frozen

    go_wp2_with fail
    have e1 := HA.out
    have e2 := HM.out
    have e3 := HC.out
    have e4 := hK1.out
    subst e1 e2 e3 e4
    have hkl : k * 5 + 5 ≤ cs.length := hlt4
    go_roundw
    case rel =>
     have hin1 := hin.onlyA (T := fun b => b = g) ((((((Only.refl (fun b => b = g) wr).setCell (p := ⟨g, k * 5, none⟩) rfl (.int .i64 (k0 + ↑(wtN Entrant.wt (xs.take k))))).setCell (p := ⟨g, k * 5 + 1, none⟩) rfl (.int .i64 (k0 + ↑(wtN Entrant.wt (xs.take k)) + 1))).setCell (p := ⟨g, k * 5 + 2, none⟩) rfl (.int .i64 (k0 + ↑(wtN Entrant.wt (xs.take k)) + 1 + 1))).setCell (p := ⟨g, k * 5 + 3, none⟩) rfl (.int .i64 (k0 + ↑(wtN Entrant.wt (xs.take k)) + 1 + 1 + 1)))) (fun r hr b h2 h3 => hag r hr (h3 ▸ h2))
     have hin2 := hin1.set hkr (Entrant.mark (k0 + wtN Entrant.wt (xs.take k)) xs[k]) q1 (by show Mine _ _ _ _ _ _ _ ((jpm Punch.mark 2 (k0 + ↑(wtN Entrant.wt (xs.take k)) + 1 + 1 + 1 + 1) xs[k].punches.length).flatMap Punch.enc); rw [HCN.out]; exact M1)
     have hag2 := jr6 (y := Entrant.mark (k0 + wtN Entrant.wt (xs.take k)) xs[k]) hkr hag
     have hin3 := hin2.onlyA (T := fun b => b = g) ((Only.refl (fun b => b = g) w1)) (fun r hr b h2 h3 => hag2 r hr (h3 ▸ h2))
     have B3 := B2
     have O3 := O2
     refine ⟨k + 1, _, _, by omega, ?_, by go_num, B3, ?_, Lib.hid (jr7 hkr hkx HR.out), ?_, ?_, hin3, hag2, O3⟩
     rotate_left
     ·simp only [List.length_set]; exact hcl
     ·rw [List.length_set]; exact hrl
     rotate_left
     ·have e2 := hwn.out
      congr 1
      omega
     ·rw [← hrl]
      refine jic (sh := entrantSh) hkr _ (by rw [hrl]; exact hcs) (fun j hj => ?_) (fun j hj => ?_)
      ·have e5 := H2.out
       have e6 := HCN.out
       match j, hj with
       | 0, _ => rw [show k * entrantSh.s + 0 = k * 5 from rfl, List.getElem?_set_ne (by omega), List.getElem?_set_ne (by omega), List.getElem?_set_ne (by omega), List.getElem?_set_self (by first | omega | (simp only [List.length_set]; omega))]; rfl
       | 1, _ => rw [show k * entrantSh.s + 1 = k * 5 + 1 from rfl, List.getElem?_set_ne (by omega), List.getElem?_set_ne (by omega), List.getElem?_set_self (by first | omega | (simp only [List.length_set]; omega))]; rfl
       | 2, _ => rw [show k * entrantSh.s + 2 = k * 5 + 2 from rfl, List.getElem?_set_ne (by omega), List.getElem?_set_self (by first | omega | (simp only [List.length_set]; omega))]; rfl
       | 3, _ => rw [show k * entrantSh.s + 3 = k * 5 + 3 from rfl, List.getElem?_set_self (by first | omega | (simp only [List.length_set]; omega))]; rfl
       | 4, _ => rw [show k * entrantSh.s + 4 = k * 5 + 4 from rfl, List.getElem?_set_ne (by omega), List.getElem?_set_ne (by omega), List.getElem?_set_ne (by omega), List.getElem?_set_ne (by omega)]; exact e5
      ·have hj' : ¬ (k * 5 ≤ j ∧ j < k * 5 + 5) := hj
       rw [List.getElem?_set_ne (by omega), List.getElem?_set_ne (by omega), List.getElem?_set_ne (by omega), List.getElem?_set_ne (by omega)]
    case measure => simp [intOf]; omega
   ·obtain rfl : k = n := by omega
    have e1 : xs.take k = xs := List.take_of_length_le (by omega)
    have e2 : xs.drop k = [] := List.drop_eq_nil_of_le (by omega)
    rw [e1, e2, List.append_nil] at HR
    rw [e1]
    go_wp2_with fail
    go_ret
    exact ⟨rfl, ⟨rs, HR.out, ⟨jci hg hB hcl hnc hcm hcs, fun b hb => by simp only [jaj, Value.ownBlock, Option.some.injEq] at hb; subst hb; exact hS⟩, hin, fun r hr b h2 h3 => by simp only [jaj, Value.ownBlock, Option.some.injEq] at h3; subst h3; exact hag r hr h2⟩, ho⟩
theorem jss (a0 : ByteArray) (a1 : ByteArray) (a2 : Int) (w : World) : Calls Tryz.prog 33 #[.agg #[a0, a1, a2]] w fun e w' => e = .returned (.agg #[a0, a1, a2]) ∧ Below w.heap.size w w' := by
 go_enter Tryz.func33, Tryz.ntmps33
 go_wp2
 exact bodyPost_ret (v := .agg #[a0, a1, a2]) (by simp [results, Tryz.results33, go_sem]) rfl ⟨rfl, (((Below.refl _ _).alloc (Nat.le_refl _) _).alloc (by simp) _).alloc (by simp; omega) _⟩
theorem jsm (a0 : ByteArray) (a1 : ByteArray) (a2 : Int) (w : World) : Calls Tryz.prog 52 #[.agg #[a0, a1, a2], .agg #[a0, a1, a2]] w fun e w' => e = .returned (.bool true) ∧ Below w.heap.size w w' := by
 go_enter Tryz.func52, Tryz.ntmps52
 go_wp2
 go_ret
 exact ⟨rfl, ((Below.refl _ _).alloc (Nat.le_refl _) _).alloc (by simp) _⟩
theorem jsr (x : Log) (left : Int) (w : World) (hx : x.upto 9223372036854775807) (hl : 0 ≤ left) (hl' : left ≤ 1048576) :
  Calls Tryz.prog 32 #[.agg #[x.durable, x.pending, x.count], .int .i64 left] w fun e w' => ∃ l : Int, e = .returned (.int .i64 l) ∧ Below w.heap.size w w' ∧ (l = -1 ∨ 0 ≤ l ∧ l ≤ left ∧ x.upto 1048576) := by
 unfold Log.upto at *
 go_enter Tryz.func32, Tryz.ntmps32
 go_wp2
 all_goals go_ret
 all_goals refine ⟨_, rfl, (Below.refl _ _).alloc (Nat.le_refl _) _, ?_⟩
 all_goals first | exact .inl rfl | (right; omega) | (right; simp only; omega)
end Go.Proofs.YtflpcdffmpfdpaaGreatDoor
