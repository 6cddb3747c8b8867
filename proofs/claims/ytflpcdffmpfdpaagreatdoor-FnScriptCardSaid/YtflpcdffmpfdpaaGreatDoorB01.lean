/- Joined texts of this proof: Base, Help1, S0, Nest, PunchT. -/
import Derived.WalkKit
import Derived.WalkSpells
import Derived.WalkLawsBesides
import Derived.LoopTactic
import Derived.RegionTactic
import Derived.Outline
import Derived.BigQuiet
import Derived.Deep.QuietTactic
import Derived.Deep.AppendLies
import Derived.Lib.Hide
import Derived.KernelRfl
import Derived.Deep.Draws
import Derived.StillTailTactics
import Derived.Deep.RegionHeld3
import Derived.Test.YtflpcdffmpfdpaaGreatDoorChecked
set_option maxRecDepth 100000
set_option maxHeartbeats 8000000
namespace Go.Proofs.YtflpcdffmpfdpaaGreatDoor
open Go.RowKit
theorem pA {α : Type} (l : List α) (i : Nat) (a : α) : l.toArray.setIfInBounds i a = (l.set i a).toArray := List.setIfInBounds_toArray l i a
theorem pB {α : Type} {x : α} {xs : List α} {a : α} : (x :: xs).set 0 a = a :: xs := List.set_cons_zero
theorem pC {α : Type} {x : α} {xs : List α} {i : Nat} {a : α} : (x :: xs).set (i + 1) a = x :: xs.set i a := List.set_cons_succ
theorem pD {α : Type} {xs : List α} {i : Nat} (h : i < xs.toArray.size) : xs.toArray[i] = xs[i] := List.getElem_toArray h
theorem pE {α : Type} (a : α) (l : List α) (h : 0 < (a :: l).length) : (a :: l)[0] = a := List.getElem_cons_zero a l h
theorem pF {α : Type} (a : α) (l : List α) (i : Nat) (h : i + 1 < (a :: l).length) : (a :: l)[i + 1] = l[i]'(Nat.lt_of_succ_lt_succ h) := List.getElem_cons_succ a l i h
theorem wT : type_of% @wpAnyH_take := @wpAnyH_take
theorem wR : type_of% @wpAnyH_ready := @wpAnyH_ready
theorem wD : type_of% @wpAnyH_done := @wpAnyH_done
theorem aC : type_of% @AllReadyH.cons := @AllReadyH.cons
theorem aN : type_of% @AllReadyH.nil := @AllReadyH.nil
theorem pX {α : Type} : (∀ (l : List α) (i : Nat) (a : α), l.toArray.setIfInBounds i a = (l.set i a).toArray) ∧ (∀ (x : α) (xs : List α) (a : α), (x :: xs).set 0 a = a :: xs) ∧ (∀ (x : α) (xs : List α) (i : Nat) (a : α), (x :: xs).set (i + 1) a = x :: xs.set i a) ∧ (∀ (xs : List α) (i : Nat) (h : i < xs.toArray.size), xs.toArray[i] = xs[i]'(by simpa using h)) ∧ (∀ (a : α) (l : List α) (h : 0 < (a :: l).length), (a :: l)[0] = a) ∧ (∀ (a : α) (l : List α) (i : Nat) (h : i + 1 < (a :: l).length), (a :: l)[i + 1] = l[i]'(Nat.lt_of_succ_lt_succ h)) :=
  ⟨fun l i a => pA l i a, fun _ _ _ => pB, fun _ _ _ _ => pC, fun _ _ h => pD h, pE, pF⟩
theorem wQ {P : Program} {ops : Array Oper} {Q : Exit → Act → World → Prop} {md : Region.Mode} {S : World → Prop} (i : Nat) {oi : Oper} {v : Value} {fuel : Nat} {listed : Array Bool} {a a2 : Act} {w : World} (h : wpAnyH P md ops Q S fuel (listed.setIfInBounds i true) a2 w) (hi : ops[i]? = some oi := by rfl)
    (hs : Region.noSelect ops = true := by kernel_rfl) (hf : Region.free md ops listed i = true := by kernel_rfl) (hr : (Region.ready md ops listed).contains i = true := by kernel_rfl) (hQ : ∀ c a w, Q (.panic c) (a.put oi.dst v) w → Q (.panic c) a w := by exact fun _ _ _ h => h) (hg : Region.wanted oi (yielded ops a.tmps) = true := by rfl)
    (hv : ∀ w, S w → (execOp a.eval oi).run P w = .ok (.value v) w := by (intro w hS; (try dsimp only at hS); go_simp; try with_reducible rfl)) (ha : a.put oi.dst v = a2 := by (first | (simp only [Act.put, List.setIfInBounds_toArray, List.set_cons_zero, List.set_cons_succ, List.getElem_toArray, List.getElem_cons_zero, List.getElem_cons_succ]; done) | (simp only [Act.put, List.setIfInBounds_toArray, List.set_cons_zero, List.set_cons_succ, List.getElem_toArray, List.getElem_cons_zero, List.getElem_cons_succ]; rfl))) (hS : S w := by assumption) : wpAnyH P md ops Q S (fuel + 1) listed a w :=
  wpAnyH_take hi hs hf hr hQ (Or.inl ⟨hg, hv⟩) hS (ha ▸ h)
theorem wU {P : Program} {ops : Array Oper} {Q : Exit → Act → World → Prop} {md : Region.Mode} {S : World → Prop} (i : Nat) {oi : Oper} {fuel : Nat} {listed : Array Bool} {a a2 : Act} {w : World} (h : wpAnyH P md ops Q S fuel (listed.setIfInBounds i true) a2 w) (hi : ops[i]? = some oi := by rfl)
    (hs : Region.noSelect ops = true := by kernel_rfl) (hf : Region.free md ops listed i = true := by kernel_rfl) (hr : (Region.ready md ops listed).contains i = true := by kernel_rfl) (hQ : ∀ c a w, Q (.panic c) (a.put oi.dst undef) w → Q (.panic c) a w := by exact fun _ _ _ h => h) (hg : Region.wanted oi (yielded ops a.tmps) = false := by rfl)
    (ha : a.put oi.dst undef = a2 := by (first | (simp only [Act.put, List.setIfInBounds_toArray, List.set_cons_zero, List.set_cons_succ, List.getElem_toArray, List.getElem_cons_zero, List.getElem_cons_succ]; done) | (simp only [Act.put, List.setIfInBounds_toArray, List.set_cons_zero, List.set_cons_succ, List.getElem_toArray, List.getElem_cons_zero, List.getElem_cons_succ]; rfl))) (hS : S w := by assumption) : wpAnyH P md ops Q S (fuel + 1) listed a w :=
  wpAnyH_take hi hs hf hr hQ (Or.inr ⟨hg, rfl⟩) hS (ha ▸ h)

def Lie (w : World) (b off : Nat) (cs : List Value) : Prop := ∀ j u, cs[j]? = some u → w.cell? ⟨b, off + j, none⟩ = some u

structure Sees (w : World) (lo s : Nat) (A : Option Addr) (n : Nat) (cs : List Value) : Prop where
  len : cs.length = n * s
  at' : 0 < n → ∃ b off, A = some ⟨b, off, none⟩ ∧ lo ≤ b ∧ b < w.heap.size ∧ Lie w b off cs

def Quiet (w w' : World) : Prop := ∃ q, w' = w.drewN q
theorem Quiet.refl (w : World) : Quiet w w := ⟨0, rfl⟩
theorem Quiet.mk (w : World) (q : Nat) : Quiet w (w.drewN q) := ⟨q, rfl⟩
theorem Quiet.one (w : World) : Quiet w w.drew := ⟨1, rfl⟩
theorem Quiet.more {w w' : World} (h : Quiet w w') (n : Nat) : Quiet w (w'.drewN n) := by
  obtain ⟨q, rfl⟩ := h
  exact ⟨q + n, World.drewN_drewN ..⟩
theorem Quiet.trans {a b c : World} (h : Quiet a b) (k : Quiet b c) : Quiet a c := by
  obtain ⟨q, rfl⟩ := k
  exact h.more q
theorem Quiet.below {w w' : World} (h : Quiet w w') (B : Nat) : Below B w w' := by
  obtain ⟨q, rfl⟩ := h
  exact ⟨rfl, rfl, rfl, Nat.le_refl _, fun _ _ => rfl⟩
theorem ja3 {B : Nat} {a b c : World} (h : Below B a b) (k : Quiet b c) : Below B a c := h.trans (k.below B)
theorem jaa {a b c : World} (h : Below a.heap.size a b) (k : Below b.heap.size b c) : Below a.heap.size a c := h.trans (k.mono h.size)

theorem Lie.kept {w w' : World} {b off : Nat} {cs : List Value} (h : Lie w b off cs) (hk : ∀ j, w'.cell? ⟨b, j, none⟩ = w.cell? ⟨b, j, none⟩) : Lie w' b off cs :=
  fun j u hu => (hk _).trans (h j u hu)

section
variable {w w' : World} {lo s n : Nat} {A : Option Addr} {cs : List Value}
theorem Sees.below {C : Nat} (h : Sees w lo s A n cs) (hk : Below C w w') (hC : w.heap.size ≤ C) : Sees w' lo s A n cs :=
  ⟨h.len, fun hn => by
    obtain ⟨b, off, e, hb, hb', hl⟩ := h.at' hn
    exact ⟨b, off, e, hb, Nat.lt_of_lt_of_le hb' hk.size, hl.kept fun j => hk.cell (p := ⟨b, j, none⟩) (by show b < C; omega)⟩⟩
theorem Sees.next (h : Sees w lo s A n cs) (hk : Below w.heap.size w w') : Sees w' lo s A n cs := h.below hk (Nat.le_refl _)
theorem Sees.quiet (h : Sees w lo s A n cs) (hq : Quiet w w') : Sees w' lo s A n cs := h.next (hq.below _)
theorem Sees.less {lo' : Nat} (h : Sees w lo s A n cs) (hl : lo' ≤ lo) : Sees w lo' s A n cs :=
  ⟨h.len, fun hn => by
    obtain ⟨b, off, e, hb, r⟩ := h.at' hn
    exact ⟨b, off, e, by omega, r⟩⟩
theorem Sees.of_own {base e c : Nat} (h : w.ownsRow base e s (.slice A n c) n cs) : Sees w base s A n cs :=
  ⟨h.1, fun hn => by
    obtain ⟨g, cap, hv, hb, hlt⟩ := h.form hn
    injection hv with hA _ _
    subst hA
    refine ⟨g, 0, rfl, hb, hlt, fun j u hu => ?_⟩
    have h2 := h.cells (g := g) rfl j u hu
    have hadd : (⟨g, 0, none⟩ : Addr).add j = ⟨g, 0 + j, none⟩ := by unfold Addr.add; split <;> simp_all
    rwa [hadd] at h2⟩
theorem Sees.nil (w : World) (lo s : Nat) (A : Option Addr) : Sees w lo s A 0 [] := ⟨by simp, fun h => absurd h (by omega)⟩
theorem Sees.one {k : Nat} (h : Sees w lo 1 A n cs) (hk : k < n) :
    ∃ b off u, A = some ⟨b, off, none⟩ ∧ lo ≤ b ∧ b < w.heap.size ∧ cs[k]? = some u ∧ w.cell? ⟨b, off + k, none⟩ = some u := by
  obtain ⟨b, off, e, hb, hb', hl⟩ := h.at' (by omega)
  have hlen : k < cs.length := by rw [h.len]; omega
  exact ⟨b, off, cs[k], e, hb, hb', List.getElem?_eq_getElem hlen, hl k _ (List.getElem?_eq_getElem hlen)⟩
end

def jb4 (xs : List Int) : List Value := xs.map (Value.int .i64)
theorem jia (xs : List Int) : (jb4 xs).length = xs.length := by simp [jb4]
theorem jqe (xs : List Int) (k : Nat) (h : k < xs.length) : (jb4 xs)[k]? = some (.int .i64 xs[k]) := by simp [jb4, h]
theorem Sees.icount {w : World} {lo n : Nat} {A : Option Addr} {xs : List Int} (h : Sees w lo 1 A n (jb4 xs)) : xs.length = n := by
  have := h.len
  rw [jia] at this
  omega
theorem Sees.int {w : World} {lo n k : Nat} {A : Option Addr} {xs : List Int} (h : Sees w lo 1 A n (jb4 xs)) (hk : k < n) :
    ∃ b off, A = some ⟨b, off, none⟩ ∧ ∃ hx : k < xs.length, w.cell? ⟨b, off + k, none⟩ = some (.int .i64 xs[k]) := by
  have hl := h.icount
  obtain ⟨b, off, u, e, hb, _, hu, hc⟩ := h.one hk
  rw [jqe xs k (by omega)] at hu
  injection hu with hu
  subst hu
  exact ⟨b, off, e, by omega, hc⟩

theorem jds {α β : Type} {f : α → List β} {s : Nat} : ∀ (l : List α) (_ : ∀ x ∈ l, (f x).length = s) (k j : Nat) (hk : k < l.length) (_ : j < s), (l.flatMap f)[k * s + j]? = (f l[k])[j]?
  | [], _, k, _, hk, _ => absurd hk (by simp)
  | x :: l, h, 0, j, _, hj => by
    have hx := h x (by simp)
    simp only [List.flatMap_cons, Nat.zero_mul, Nat.zero_add, List.getElem_cons_zero]
    rw [List.getElem?_append_left (by omega)]
  | x :: l, h, k + 1, j, hk, hj => by
    have hx := h x (by simp)
    simp only [List.flatMap_cons, List.getElem_cons_succ]
    rw [List.getElem?_append_right (by rw [hx, Nat.succ_mul]; omega), ← jds l (fun y hy => h y (by simp [hy])) k j (by simpa using hk) hj]
    congr 1
    rw [hx, Nat.succ_mul]
    omega
theorem jak {α β : Type} {f : α → List β} {s : Nat} : ∀ (l : List α) (_ : ∀ x ∈ l, (f x).length = s), (l.flatMap f).length = l.length * s
  | [], _ => by simp
  | x :: l, h => by
    rw [List.flatMap_cons, List.length_append, jak l (fun y hy => h y (by simp [hy])), h x (by simp), List.length_cons, Nat.succ_mul]
    omega
section
variable {α : Type} {enc : α → List Value} {w : World} {lo s n k : Nat} {A : Option Addr} {ds : List α}
theorem Sees.count (h : Sees w lo s A n (ds.flatMap enc)) (hs : 0 < s) (henc : ∀ x, (enc x).length = s) : ds.length = n := by
  have hl := h.len
  rw [jak ds (fun x _ => henc x)] at hl
  exact Nat.eq_of_mul_eq_mul_right hs hl
theorem Sees.elem (h : Sees w lo s A n (ds.flatMap enc)) (hs : 0 < s) (henc : ∀ x, (enc x).length = s) (hk : k < n) :
    ∃ b off, A = some ⟨b, off, none⟩ ∧ ∃ hx : k < ds.length, ∀ j u, (enc ds[k])[j]? = some u → w.cell? ⟨b, off + k * s + j, none⟩ = some u := by
  have hl' := h.count hs henc
  obtain ⟨b, off, e, _, _, hlie⟩ := h.at' (by omega)
  refine ⟨b, off, e, by omega, fun j u hu => ?_⟩
  have hj : j < s := by
    have := (List.getElem?_eq_some_iff.1 hu).1
    rw [henc] at this
    exact this
  rw [Nat.add_assoc]
  exact hlie _ _ (by rw [jds ds (fun x _ => henc x) k j (by omega) hj, hu])
theorem Sees.elem2 {f0 f1 : α → Value} (h : Sees w lo 2 A n (ds.flatMap enc)) (he : ∀ x, enc x = [f0 x, f1 x]) (hk : k < n) :
    ∃ b off, A = some ⟨b, off, none⟩ ∧ ∃ hx : k < ds.length, w.cell? ⟨b, off + k * 2, none⟩ = some (f0 ds[k]) ∧ w.cell? ⟨b, off + k * 2 + 1, none⟩ = some (f1 ds[k]) := by
  obtain ⟨b, off, e, hx, hc⟩ := h.elem (by decide) (fun x => by rw [he]; rfl) hk
  exact ⟨b, off, e, hx, hc 0 _ (by rw [he]; rfl), hc 1 _ (by rw [he]; rfl)⟩
theorem Sees.elem4 {f0 f1 f2 f3 : α → Value} (h : Sees w lo 4 A n (ds.flatMap enc)) (he : ∀ x, enc x = [f0 x, f1 x, f2 x, f3 x]) (hk : k < n) :
    ∃ b off, A = some ⟨b, off, none⟩ ∧ ∃ hx : k < ds.length, w.cell? ⟨b, off + k * 4, none⟩ = some (f0 ds[k]) ∧ w.cell? ⟨b, off + k * 4 + 1, none⟩ = some (f1 ds[k]) ∧ w.cell? ⟨b, off + k * 4 + 2, none⟩ = some (f2 ds[k]) ∧ w.cell? ⟨b, off + k * 4 + 3, none⟩ = some (f3 ds[k]) := by
  obtain ⟨b, off, e, hx, hc⟩ := h.elem (by decide) (fun x => by rw [he]; rfl) hk
  exact ⟨b, off, e, hx, hc 0 _ (by rw [he]; rfl), hc 1 _ (by rw [he]; rfl), hc 2 _ (by rw [he]; rfl), hc 3 _ (by rw [he]; rfl)⟩
end

def Blk (w : World) (g : Nat) (t : TypeId) (cs : List Value) : Prop := w.heap[g]? = some (.cells cs.toArray t (0, 0))
section
variable {w w' : World} {g : Nat} {t : TypeId} {cs : List Value}
theorem Blk.lt (h : Blk w g t cs) : g < w.heap.size := by
  rcases Nat.lt_or_ge g w.heap.size with hlt | hge
  · exact hlt
  · unfold Blk at h; rw [Array.getElem?_eq_none hge] at h; cases h
theorem Blk.cell (h : Blk w g t cs) (i : Nat) : w.cell? ⟨g, i, none⟩ = cs[i]? := by
  have := cell_of_row w g i cs.toArray t (0, 0) h
  simpa using this
theorem Blk.frozen (h : Blk w g t cs) (i : Nat) : w.frozen? ⟨g, i, none⟩ = false := by
  unfold Blk at h
  simp [World.frozen?, h]
theorem Blk.new (w : World) (t : TypeId) (cs : List Value) : Blk (w.alloc (.cells cs.toArray t)) w.heap.size t cs := heap_alloc_new w _
theorem Blk.at_ (hg : w.heap.size = g) : Blk (w.alloc (.cells cs.toArray t)) g t cs := hg ▸ Blk.new w t cs
theorem Blk.alloc (h : Blk w g t cs) (o : Obj) : Blk (w.alloc o) g t cs := (Below.heap_alloc w o g h.lt).trans h
theorem Blk.drewN (h : Blk w g t cs) (n : Nat) : Blk (w.drewN n) g t cs := h
theorem Blk.quiet (h : Blk w g t cs) (hq : Quiet w w') : Blk w' g t cs := by
  obtain ⟨q, rfl⟩ := hq
  exact h
theorem Blk.next (h : Blk w g t cs) (hb : Below w.heap.size w w') : Blk w' g t cs := (hb.block g h.lt).trans h
theorem Blk.set_ (h : Blk w g t cs) (i : Nat) (u : Value) : Blk (w.setCell ⟨g, i, none⟩ u) g t (cs.set i u) := by
  unfold Blk at h ⊢
  simp [World.setCell, Array.getElem?_modify, h]
theorem Blk.far (h : Blk w g t cs) {p : Addr} (hp : g ≠ p.block) (u : Value) : Blk (w.setCell p u) g t cs := (Below.heap_setCell w p u g hp).trans h
theorem Blk.own (h : Blk w g t cs) {base s n : Nat} (hb : base ≤ g) (hn : cs.length = n * s) (hm : n ≤ maxLen) : w.ownsRow base t s (.slice (some ⟨g, 0, none⟩) n n) n cs :=
  ⟨hn, .inr ⟨g, n, cs.toArray, rfl, hb, h, Nat.le_refl _, hm, by simpa using hn, by simp [← hn]⟩⟩
end

def jaj (A : Option Addr) (b : Nat) : Prop := (Value.slice A 0 0).ownBlock = some b
theorem jdg {A : Option Addr} {n c b : Nat} : (Value.slice A n c).ownBlock = some b ↔ jaj A b := by cases A <;> simp [jaj, Value.ownBlock]
structure Only (S : Nat → Prop) (w w' : World) : Prop where
  os : w'.os = w.os
  tape : w'.tape = w.tape
  output : w'.output = w.output
  size : w.heap.size ≤ w'.heap.size
  block : ∀ k, k < w.heap.size → ¬ S k → w'.heap[k]? = w.heap[k]?
theorem Only.refl (S : Nat → Prop) (w : World) : Only S w w := ⟨rfl, rfl, rfl, Nat.le_refl _, fun _ _ _ => rfl⟩
theorem Only.trans {S : Nat → Prop} {a b c : World} (h : Only S a b) (k : Only S b c) : Only S a c :=
  ⟨k.os.trans h.os, k.tape.trans h.tape, k.output.trans h.output, Nat.le_trans h.size k.size, fun i hi hS => (k.block i (Nat.lt_of_lt_of_le hi h.size) hS).trans (h.block i hi hS)⟩
theorem Only.mono {S T : Nat → Prop} {a b : World} (h : Only S a b) (hS : ∀ k, S k → T k) : Only T a b := ⟨h.os, h.tape, h.output, h.size, fun i hi hT => h.block i hi (fun hs => hT (hS i hs))⟩
theorem Only.quiet {S : Nat → Prop} {a b c : World} (h : Only S a b) (k : Quiet b c) : Only S a c := by
  obtain ⟨q, rfl⟩ := k
  exact ⟨h.os, h.tape, h.output, h.size, h.block⟩
theorem Only.of_below {S : Nat → Prop} {a b : World} (h : Below a.heap.size a b) : Only S a b := ⟨h.os, h.tape, h.output, h.size, fun i hi _ => h.block i hi⟩
theorem Only.then_ {S : Nat → Prop} {a b c : World} (h : Only S a b) (k : Below b.heap.size b c) : Only S a c := h.trans (.of_below k)
theorem Only.setCell {S : Nat → Prop} {a w : World} (h : Only S a w) {p : Addr} (hp : S p.block) (u : Value) : Only S a (w.setCell p u) :=
  h.trans ⟨rfl, rfl, rfl, by simp [World.setCell], fun k _ hk => Below.heap_setCell _ _ _ _ (fun e => hk (by rw [e]; exact hp))⟩
theorem Only.below {S : Nat → Prop} {w w' : World} {B : Nat} (h : Only S w w') (hS : ∀ k, S k → B ≤ k) (hB : B ≤ w.heap.size) : Below B w w' := ⟨h.os, h.tape, h.output, h.size, fun k hk => h.block k (by omega) (fun hs => by have := hS k hs; omega)⟩
theorem ja4 (w : World) (t s : Nat) : (w.alloc (.cells #[] t)).ownsRow w.heap.size t s (.slice (some ⟨w.heap.size, 0, none⟩) 0 0) 0 [] :=
  ⟨by simp, .inr ⟨w.heap.size, 0, #[], rfl, Nat.le_refl _, heap_alloc_new w _, Nat.le_refl _, by simp [maxLen], by simp, by simp⟩⟩
theorem jac {P : Program} {w : World} {ops : Array Oper} {rest : List Oper} {o : Oper} {a : Act} {Q : Exit → Act → World → Prop} (hgd : o.guard = none) (sx xx : Operand) (t : TypeId)
    (ho : o.op = .call { callee := .builtin .append, args := #[sx, xx], argTypes := #[t, t] })
    {base : Nat} {e : TypeId} {z : Value} {s bytes : Nat} (ht : P.underlying t = some (.slice e)) (hi : (P.info? e).map (fun i => (i.zero, i.size, i.bytes)) = some (some z, s, bytes)) (hzs : z.cells.size = s) (hsz : 0 < s)
    {A : Option Addr} {n c : Nat} {xs : List Value} (hs : a.eval sx = .slice A n c) (hown : w.ownsRow base e s (.slice A n c) n xs)
    {vals : List Value} {e' : TypeId} {bH : Nat} (hx : a.eval xx = .slice (some ⟨bH, 0, none⟩) 1 1) (hH : w.heap.size = bH) (hl : vals.length = s) (h1 : vals.all Value.oneCell' = true)
    (hn : n ≤ 1000000000) (hby : bytes ≤ 1000) (hbase : base ≤ w.heap.size)
    (h : ∀ (A' : Option Addr) (c' : Nat) (w' : World), w'.ownsRow base e s (.slice A' (n + 1) c') (n + 1) (xs ++ vals) → Only (jaj A) w w' → Below base w w' → (∀ b, jaj A' b → jaj A b ∨ w.heap.size ≤ b) → wpList P ops Q rest (a.put o.dst (.slice A' (n + 1) c')) w') : wpList P ops Q (o :: rest) a (w.alloc (.cells vals.toArray e')) := by
  obtain ⟨i0, hi, hz0, hz1, hz2⟩ := info_parts hi
  subst hH
  have hsz' : w.heap.size + 1 = (w.alloc (.cells vals.toArray e')).heap.size := by simp
  refine wpList_append_lies _ hgd sx xx t ho base e i0 z s bytes ht hi hz0 hz1 hz2 hzs hsz _ n xs hs (hown.alloc _) ⟨w.heap.size, 0, none⟩ 1 1 vals hx (by omega) (fun j u hu => ?_) (List.all_eq_true.1 h1) (by decide) (by simp only [maxLen]; omega) ?_ (by omega) _ rfl (fun g cap w' h2 h3 h4 _ => h _ _ w' h2 ?_ ?_ ?_)
  · have hadd : (⟨w.heap.size, 0, none⟩ : Addr).add j = ⟨w.heap.size, j, none⟩ := by unfold Addr.add; split <;> simp_all
    have := cell_of_row _ w.heap.size j vals.toArray e' (0, 0) (heap_alloc_new w (.cells vals.toArray e'))
    rw [hadd, this]
    simpa using hu
  · exact Nat.le_trans (Nat.mul_le_mul (show n + 1 ≤ 1000000001 by omega) hby) (by decide)
  · have h5 := World.grownBy_alloc w (.cells vals.toArray e') (Value.slice A n c).ownBlock
    exact ⟨h3.os.trans h5.os, h3.tape.trans h5.tape, h3.output.trans h5.output, Nat.le_trans h5.size h3.size, fun k hk hS => (h3.block k (Nat.lt_of_lt_of_le hk h5.size) (fun e => hS (jdg.1 e.symm))).trans (h5.block k hk (fun e => hS (jdg.1 e.symm)))⟩
  · exact ((Below.refl base w).alloc hbase _).grown h3 (by omega) (fun k hk => (hown.lt k hk).1)
  · intro b hb
    have hb' : g = b := by simpa [jaj, Value.ownBlock] using hb
    subst hb'
    rcases h4 with h4 | h4
    · exact .inl (jdg.1 h4)
    · exact .inr (by omega)
theorem jad {w w' : World} {base e s n : Nat} {v : Value} {xs : List Value} (h : w.ownsRow base e s v n xs) (hb : Below w.heap.size w w') : w'.ownsRow base e s v n xs := by
  refine ⟨h.1, ?_⟩
  rcases h.2 with h2 | ⟨g, cap, cur, rfl, h3, h4, h5⟩
  · exact .inl h2
  · refine .inr ⟨g, cap, cur, rfl, h3, ?_, h5⟩
    rw [hb.block g (Array.getElem?_eq_some_iff.1 h4).1]
    exact h4
theorem jd4 {w : World} {base e s n : Nat} {v : Value} {xs : List Value} (h : w.ownsRow base e s v n xs) (o : Obj) : (w.alloc o).ownsRow base e s v n xs := h.alloc o
theorem jby {w : World} {base t s n c : Nat} {A : Option Addr} {xs : List Value} (h : w.ownsRow base t s (.slice A n c) n xs) :
    (A = none ∧ n = 0 ∧ c = 0 ∧ xs = []) ∨ ∃ (g : Nat) (cur : List Value), A = some ⟨g, 0, none⟩ ∧ base ≤ g ∧ Blk w g t cur ∧ cur.length = c * s ∧ n ≤ c ∧ c ≤ maxLen ∧ cur.take (n * s) = xs := by
  rcases h.2 with ⟨hv, hn⟩ | ⟨g, cap, cur, hv, hb, hg, h1, h2, h3, h4⟩
  · injection hv with e1 e2 e3
    exact .inl ⟨e1, e2, e3, List.eq_nil_of_length_eq_zero (by rw [h.1, hn]; simp)⟩
  · injection hv with e1 e2 e3
    subst e3
    exact .inr ⟨g, cur.toList, e1, hb, by simpa [Blk] using hg, by simpa using h3, h1, h2, h4⟩
theorem jci {w : World} {base t s n c g : Nat} {xs cur : List Value} (hb : base ≤ g) (hg : Blk w g t cur) (hc : cur.length = c * s) (hn : n ≤ c) (hm : c ≤ maxLen) (ht : cur.take (n * s) = xs) : w.ownsRow base t s (.slice (some ⟨g, 0, none⟩) n c) n xs := by
  have hle : n * s ≤ c * s := Nat.mul_le_mul_right s hn
  exact ⟨by rw [← ht, List.length_take]; omega, .inr ⟨g, c, cur.toArray, rfl, hb, hg, hn, hm, by simpa using hc, by simpa using ht⟩⟩
def jey {α : Type} : List α → Nat → List α → List α
  | cs, _, [] => cs
  | cs, i, v :: vs => jey (cs.set i v) (i + 1) vs
def jkr : World → Nat → Nat → List Value → World
  | w, _, _, [] => w
  | w, g, i, v :: vs => jkr (w.setCell ⟨g, i, none⟩ v) g (i + 1) vs
theorem Blk.many {t : TypeId} {g : Nat} : ∀ (vs : List Value) {w : World} {cs : List Value} (_ : Blk w g t cs) (i : Nat), Blk (jkr w g i vs) g t (jey cs i vs)
  | [], _, _, h, _ => h
  | v :: vs, _, _, h, i => Blk.many vs (h.set_ i v) (i + 1)
theorem jfg {α : Type} : ∀ (vs cs : List α) (i : Nat), (jey cs i vs).length = cs.length
  | [], _, _ => rfl
  | v :: vs, cs, i => by rw [jey, jfg vs]; simp
theorem jfr {α : Type} : ∀ (vs cs : List α) (i j : Nat), i + vs.length ≤ cs.length → (jey cs i vs)[j]? = if i ≤ j ∧ j < i + vs.length then vs[j - i]? else cs[j]?
  | [], cs, i, j, _ => by rw [if_neg (by simp only [List.length_nil]; omega)]; rfl
  | v :: vs, cs, i, j, h => by
    simp only [List.length_cons] at h
    rw [jey, jfr vs _ (i + 1) j (by simp; omega)]
    by_cases h1 : i + 1 ≤ j ∧ j < i + 1 + vs.length
    · rw [if_pos h1, if_pos (by simp only [List.length_cons]; omega)]
      have : j - i = (j - (i + 1)) + 1 := by omega
      rw [this, List.getElem?_cons_succ]
    · rw [if_neg h1]
      by_cases h2 : j = i
      · subst h2
        rw [if_pos (by simp only [List.length_cons]; omega), Nat.sub_self, List.getElem?_set_self (by omega)]
        rfl
      · rw [if_neg (by simp only [List.length_cons]; omega), List.getElem?_set_ne (by omega)]
structure Upto {α : Type} (enc : α → List Value) (s : Nat) (xs : List α) (k : Nat) (cs : List Value) : Prop where
  len : xs.length * s ≤ cs.length
  get : ∀ j, j < k * s → cs[j]? = (xs.flatMap enc)[j]?
section
variable {α : Type} {enc : α → List Value} {s : Nat} {xs : List α} {k : Nat} {cs : List Value}
theorem Upto.zero (h : xs.length * s ≤ cs.length) : Upto enc s xs 0 cs := ⟨h, fun j hj => by omega⟩
theorem Upto.step (h : Upto enc s xs k cs) (henc : ∀ x, (enc x).length = s) (hk : k < xs.length) : Upto enc s xs (k + 1) (jey cs (k * s) (enc xs[k])) := by
  have hle : (k + 1) * s ≤ xs.length * s := Nat.mul_le_mul_right s hk
  rw [Nat.succ_mul] at hle
  have hl := h.len
  refine ⟨by rw [jfg]; exact hl, fun j hj => ?_⟩
  rw [Nat.succ_mul] at hj
  rw [jfr _ _ _ _ (by rw [henc]; omega), henc]
  by_cases h1 : k * s ≤ j ∧ j < k * s + s
  · rw [if_pos h1, ← jds xs (fun x _ => henc x) k (j - k * s) hk (by omega)]
    congr 1
    omega
  · rw [if_neg h1]
    exact h.get j (by omega)
theorem Upto.all (h : Upto enc s xs k cs) (henc : ∀ x, (enc x).length = s) (hk : k = xs.length) : cs.take (xs.length * s) = xs.flatMap enc := by
  subst hk
  have hl := h.len
  refine List.ext_getElem? fun j => ?_
  rw [List.getElem?_take]
  by_cases hj : j < xs.length * s
  · rw [if_pos hj]; exact h.get j hj
  · rw [if_neg hj, List.getElem?_eq_none (by rw [jak xs (fun x _ => henc x)]; omega)]
end
theorem Only.many {S : Nat → Prop} {a : World} {g : Nat} (hg : S g) : ∀ (vs : List Value) {w : World} (_ : Only S a w) (i : Nat), Only S a (jkr w g i vs)
  | [], _, h, _ => h
  | v :: vs, _, h, i => Only.many hg vs (h.setCell (p := ⟨g, i, none⟩) hg v) (i + 1)
theorem Sees.only {S : Nat → Prop} {w w' : World} {lo s n : Nat} {A : Option Addr} {cs : List Value} (h : Sees w lo s A n cs) (hk : Only S w w') (hS : ∀ b off, A = some ⟨b, off, none⟩ → 0 < n → ¬ S b) : Sees w' lo s A n cs :=
  ⟨h.len, fun hn => by
    obtain ⟨b, off, e, hb, hb', hl⟩ := h.at' hn
    exact ⟨b, off, e, hb, Nat.lt_of_lt_of_le hb' hk.size, hl.kept fun j => World.cell?_of_block (hk.block b hb' (hS b off e hn))⟩⟩
theorem Blk.only {S : Nat → Prop} {w w' : World} {g : Nat} {t : TypeId} {cs : List Value} (h : Blk w g t cs) (hk : Only S w w') (hS : ¬ S g) : Blk w' g t cs := (hk.block g h.lt hS).trans h
theorem Blk.sees {w : World} {g lo s n : Nat} {t : TypeId} {cs : List Value} (h : Blk w g t cs) (hl : lo ≤ g) (hn : cs.length = n * s) : Sees w lo s (some ⟨g, 0, none⟩) n cs :=
  ⟨hn, fun _ => ⟨g, 0, rfl, hl, h.lt, fun j u hu => by rw [h.cell, Nat.zero_add]; exact hu⟩⟩

def In (lo hi b : Nat) : Prop := lo ≤ b ∧ b < hi
theorem jax {w : World} {base base' e s n : Nat} {v : Value} {xs : List Value} (h : w.ownsRow base e s v n xs) (hb : base' ≤ base) : w.ownsRow base' e s v n xs :=
  ⟨h.1, h.2.imp id fun ⟨g, cap, cur, h1, h2, h3⟩ => ⟨g, cap, cur, h1, Nat.le_trans hb h2, h3⟩⟩
structure Mine (w : World) (S : Nat → Prop) (t s : Nat) (A : Option Addr) (n c : Nat) (cs : List Value) : Prop where
  own : w.ownsRow 0 t s (.slice A n c) n cs
  top : ∀ b, jaj A b → S b
section
variable {w w' : World} {S T : Nat → Prop} {t s n c : Nat} {A : Option Addr} {cs : List Value}
theorem Mine.of {base : Nat} (h : w.ownsRow base t s (.slice A n c) n cs) : Mine w (In base w.heap.size) t s A n c cs := ⟨jax h (Nat.zero_le _), fun b hb => h.lt b (jdg.2 hb)⟩
theorem Mine.lt (h : Mine w S t s A n c cs) : ∀ b, jaj A b → b < w.heap.size := fun b hb => (h.own.lt b (jdg.2 hb)).2
theorem Mine.next (h : Mine w S t s A n c cs) (hb : Below w.heap.size w w') : Mine w' S t s A n c cs := ⟨jad h.own hb, h.top⟩
theorem Mine.only (h : Mine w S t s A n c cs) (ho : Only T w w') (hS : ∀ b, S b → T b → False) : Mine w' S t s A n c cs := by
  refine ⟨?_, h.top⟩
  rcases jby h.own with ⟨rfl, rfl, rfl, rfl⟩ | ⟨g, cur, rfl, h1, h2, h3, h4, h5, h6⟩
  · exact World.ownsRow_nil _ _ _ _
  · exact jci h1 (h2.only ho (hS g (h.top g rfl))) h3 h4 h5 h6
theorem Mine.sees (h : Mine w S t s A n c cs) : Sees w 0 s A n cs := .of_own h.own
theorem Mine.wide (h : Mine w S t s A n c cs) (h1 : ∀ b, S b → T b) : Mine w T t s A n c cs := ⟨h.own, fun b hb => h1 b (h.top b hb)⟩
theorem Mine.exact_ (h : Mine w S t s A n c cs) : Mine w (jaj A) t s A n c cs := ⟨h.own, fun _ hb => hb⟩
end

def jpm {α : Type} (f : Int → α) (s : Nat) (k : Int) (n : Nat) : List α := (List.range n).map fun i : Nat => f (k + (i : Int) * (s : Int))
theorem jp1 {W w1 : World} (hb : Below W.heap.size W w1) : (∀ b o, b < W.heap.size → w1.cell? ⟨b, o, none⟩ = W.cell? ⟨b, o, none⟩) ∧ (∀ b o, b < W.heap.size → w1.frozen? ⟨b, o, none⟩ = W.frozen? ⟨b, o, none⟩) :=
  ⟨fun b o h => hb.cell (p := ⟨b, o, none⟩) h, fun b o h => hb.frozen (p := ⟨b, o, none⟩) h⟩

def jc7 (n : Nat) (p : Nat → Bool) : Bool := (List.range n).all p
theorem jdp {n : Nat} {p : Nat → Bool} (h : jc7 n p = true) (hp : p n = true) : jc7 (n + 1) p = true := by
  unfold jc7 at *
  rw [List.range_succ, List.all_append, h]
  simp [hp]
theorem jaw {n k : Nat} {p : Nat → Bool} (hk : k < n) (hp : p k = false) : jc7 n p = false := by
  unfold jc7
  rw [List.all_eq_false]
  exact ⟨k, List.mem_range.2 hk, by simp [hp]⟩
theorem jhk {n k : Nat} {p : Nat → Bool} (h : jc7 n p = true) (hk : k < n) : p k = true := List.all_eq_true.1 h k (List.mem_range.2 hk)
theorem jab {a b : Bool} (h : a = b) : Ending.returned (.bool a) = .returned (.bool b) := by rw [h]
theorem jh3 {a b : Int} (h : a = b) : Ending.returned (.int .i64 a) = .returned (.int .i64 b) := by rw [h]
theorem nB (w : World) (o : Obj) : Below w.heap.size w (w.alloc o) := (Below.refl _ _).alloc (Nat.le_refl _) _
theorem nB2 (w : World) (o o2 : Obj) : Below w.heap.size w ((w.alloc o).alloc o2) := (nB w o).alloc (by simp) _
theorem nB3 (w : World) (o o2 o3 : Obj) : Below w.heap.size w (((w.alloc o).alloc o2).alloc o3) := (nB2 w o o2).alloc (by simp; omega) _
theorem nB4 (w : World) (o o2 o3 o4 : Obj) : Below w.heap.size w ((((w.alloc o).alloc o2).alloc o3).alloc o4) := (nB3 w o o2 o3).alloc (by simp; omega) _
theorem nP (w : World) (v : List Value) (t : TypeId) : Blk (w.alloc (.cells v.toArray t)) w.heap.size t v := Blk.at_ rfl
theorem nPa (w : World) (v : List Value) (t : TypeId) (o : Obj) : Blk ((w.alloc (.cells v.toArray t)).alloc o) w.heap.size t v := (nP w v t).alloc _
theorem nPb (w : World) (v : List Value) (t : TypeId) (o o2 : Obj) : Blk (((w.alloc (.cells v.toArray t)).alloc o).alloc o2) w.heap.size t v := (nPa w v t o).alloc _
theorem nPc (w : World) (v : List Value) (t : TypeId) (o o2 o3 : Obj) : Blk ((((w.alloc (.cells v.toArray t)).alloc o).alloc o2).alloc o3) w.heap.size t v := (nPb w v t o o2).alloc _
theorem nQ (w : World) (o : Obj) (v : List Value) (t : TypeId) : Blk ((w.alloc o).alloc (.cells v.toArray t)) (w.heap.size + 1) t v := Blk.at_ (by simp)
theorem nQa (w : World) (o : Obj) (v : List Value) (t : TypeId) (o2 : Obj) : Blk (((w.alloc o).alloc (.cells v.toArray t)).alloc o2) (w.heap.size + 1) t v := (nQ w o v t).alloc _
theorem nQb (w : World) (o : Obj) (v : List Value) (t : TypeId) (o2 o3 : Obj) : Blk ((((w.alloc o).alloc (.cells v.toArray t)).alloc o2).alloc o3) (w.heap.size + 1) t v := (nQa w o v t o2).alloc _
theorem nR (w : World) (o o2 : Obj) (v : List Value) (t : TypeId) : Blk (((w.alloc o).alloc o2).alloc (.cells v.toArray t)) (w.heap.size + 2) t v := Blk.at_ (by simp)
theorem nRa (w : World) (o o2 : Obj) (v : List Value) (t : TypeId) (o3 : Obj) : Blk ((((w.alloc o).alloc o2).alloc (.cells v.toArray t)).alloc o3) (w.heap.size + 2) t v := (nR w o o2 v t).alloc _
theorem nS (w : World) (o o2 o3 : Obj) (v : List Value) (t : TypeId) : Blk ((((w.alloc o).alloc o2).alloc o3).alloc (.cells v.toArray t)) (w.heap.size + 3) t v := Blk.at_ (by simp)
theorem nZ (w : World) (o : Obj) : w.heap.size + 1 ≤ (w.alloc o).heap.size := by simp
theorem nZ2 (w : World) (o o2 : Obj) : w.heap.size + 2 ≤ ((w.alloc o).alloc o2).heap.size := by simp
theorem nZ3 (w : World) (o o2 o3 : Obj) : w.heap.size + 3 ≤ (((w.alloc o).alloc o2).alloc o3).heap.size := by simp
instance cI : Coe Int Value := ⟨fun x => .int .i64 x⟩
instance cB : Coe Bool Value := ⟨fun x => .bool x⟩
instance cS : Coe ByteArray Value := ⟨fun x => .string x⟩
end Go.Proofs.YtflpcdffmpfdpaaGreatDoor
namespace Go.Proofs.YtflpcdffmpfdpaaGreatDoor
open Go.RowKit
theorem ja8 : (Tryz.prog.info? 3).map (fun i => (i.zero, i.size, i.bytes)) = some (some (.int .i64 0), 1, 8) := by kernel_rfl
def inB (n lo hi : Int) : Bool := decide (lo ≤ n) && decide (n ≤ hi)
theorem jaq {n lo hi : Int} (h : inB n lo hi = true) : lo ≤ n ∧ n ≤ hi := by simpa [inB] using h
theorem jaf (n lo hi : Int) (w : World) : Calls Tryz.prog 70 #[.int .i64 n, .int .i64 lo, .int .i64 hi] w fun e w' => e = .returned (.bool (inB n lo hi)) ∧ w = w' := by
  go_enter Tryz.func70, Tryz.ntmps70
  go_wp2
  all_goals go_ret
  all_goals exact ⟨jab (by simp [inB]; omega), rfl⟩
theorem jae (n lo hi : Int) (w : World) : Calls Tryz.prog 111 #[.int .i64 n, .int .i64 lo, .int .i64 hi] w fun e w' => e = .returned (.bool (inB n lo hi)) ∧ w = w' := by
  go_enter Tryz.func111, Tryz.ntmps111
  go_wp2
  all_goals go_ret
  all_goals exact ⟨jab (by simp [inB]; omega), rfl⟩
theorem jav (n : Int) (w : World) : Calls Tryz.prog 114 #[.int .i64 n] w fun e w' => e = .returned (.bool (inB n 0 36000)) ∧ w = w' := by
  go_enter Tryz.func114, Tryz.ntmps114
  go_wp2_with (go_at_call 70; refine (jaf _ _ _ _).mono ?_; rintro e w' ⟨rfl, rfl⟩)
  go_ret
  exact ⟨rfl, rfl⟩
theorem jan (n : Int) (w : World) : Calls Tryz.prog 119 #[.int .i64 n] w fun e w' => e = .returned (.bool (inB n 0 36000)) ∧ w = w' := by
  go_enter Tryz.func119, Tryz.ntmps119
  go_wp2_with (go_at_call 111; refine (jae _ _ _ _).mono ?_; rintro e w' ⟨rfl, rfl⟩)
  go_ret
  exact ⟨rfl, rfl⟩
def jbj (w : World) (R : Option (List Int)) (e : Ending) (w' : World) : Prop :=
  ∃ A c, e = .returned (.tuple #[.slice A (R.getD []).length c, .bool R.isSome]) ∧ w'.ownsRow w.heap.size 3 1 (.slice A (R.getD []).length c) (R.getD []).length (jb4 (R.getD [])) ∧ Below w.heap.size w w'
theorem jhw {w w' : World} (h : Below w.heap.size w w') : jbj w none (.returned (.tuple #[.slice none 0 0, .bool false])) w' :=
  ⟨none, 0, rfl, World.ownsRow_nil _ _ _ _, h⟩
theorem jpd {w : World} {base t n c : Nat} {A : Option Addr} {xs : List Int} (h : w.ownsRow base t 1 (.slice A n c) n (jb4 xs)) : xs.length = n := by
  have := h.1
  rw [jia] at this
  omega
theorem jiy {w : World} (wr : World) (h : Below w.heap.size w wr) : jbj w none (.returned (.tuple #[.slice (some ⟨wr.heap.size, 0, none⟩) 0 0, .bool false])) (wr.alloc (.cells #[] 3)) :=
  ⟨_, 0, rfl, by
    have := ja4 wr 3 1
    exact ⟨this.1, this.2.imp id fun ⟨g, cap, cur, h1, h2, h3⟩ => ⟨g, cap, cur, h1, Nat.le_trans h.size h2, h3⟩⟩, h.alloc h.size _⟩
end Go.Proofs.YtflpcdffmpfdpaaGreatDoor
namespace Go.Proofs.YtflpcdffmpfdpaaGreatDoor
open Go.RowKit

structure Hd (α : Type) where
  x : α
  A : Option Addr
  n : Nat
  c : Nat
structure Sh (α : Type) where
  enc : Hd α → List Value
  s : Nat
  is : Nat
  inner : α → List Value
  pos : 0 < s
  len : ∀ r, (enc r).length = s
section
variable {α : Type} {sh : Sh α} {w w' : World} {lo s n c t ti : Nat} {A : Option Addr} {xs : List α} {S T : Nat → Prop}
def SeesN (sh : Sh α) (w : World) (lo : Nat) (A : Option Addr) (n : Nat) (xs : List α) : Prop :=
  ∃ rs : List (Hd α), rs.map Hd.x = xs ∧ Sees w lo sh.s A n (rs.flatMap sh.enc) ∧ ∀ r ∈ rs, Sees w lo sh.is r.A r.n (sh.inner r.x)
theorem SeesN.next (h : SeesN sh w lo A n xs) (hb : Below w.heap.size w w') : SeesN sh w' lo A n xs := by
  obtain ⟨rs, h1, h2, h3⟩ := h
  exact ⟨rs, h1, h2.next hb, fun r hr => (h3 r hr).next hb⟩
theorem SeesN.below {C : Nat} (h : SeesN sh w lo A n xs) (hb : Below C w w') (hC : w.heap.size ≤ C) : SeesN sh w' lo A n xs := by
  obtain ⟨rs, h1, h2, h3⟩ := h
  exact ⟨rs, h1, h2.below hb hC, fun r hr => (h3 r hr).below hb hC⟩
theorem SeesN.quiet (h : SeesN sh w lo A n xs) (hq : Quiet w w') : SeesN sh w' lo A n xs := h.next (hq.below _)
theorem SeesN.count (h : SeesN sh w lo A n xs) : xs.length = n := by
  obtain ⟨rs, rfl, h2, _⟩ := h
  rw [List.length_map]
  exact h2.count sh.pos sh.len
structure Inners (sh : Sh α) (w : World) (S : Nat → Prop) (ti : TypeId) (rs : List (Hd α)) : Prop where
  each : ∀ r ∈ rs, Mine w S ti sh.is r.A r.n r.c (sh.inner r.x)
  pair : rs.Pairwise fun r r' => ∀ b, jaj r.A b → ¬ jaj r'.A b
theorem Inners.nil (S : Nat → Prop) : Inners sh w S ti [] := ⟨by simp, List.Pairwise.nil⟩
theorem Inners.next {rs : List (Hd α)} (h : Inners sh w S ti rs) (hb : Below w.heap.size w w') : Inners sh w' S ti rs := ⟨fun r hr => (h.each r hr).next hb, h.pair⟩
theorem Inners.only {rs : List (Hd α)} (h : Inners sh w S ti rs) (ho : Only T w w') (hS : ∀ b, S b → T b → False) : Inners sh w' S ti rs := ⟨fun r hr => (h.each r hr).only ho hS, h.pair⟩
theorem Inners.wide {rs : List (Hd α)} (h : Inners sh w S ti rs) (hS : ∀ b, S b → T b) : Inners sh w T ti rs := ⟨fun r hr => (h.each r hr).wide hS, h.pair⟩
theorem Inners.snoc {rs : List (Hd α)} (h : Inners sh w S ti rs) {x : α} {A : Option Addr} {n c : Nat} (hm : Mine w T ti sh.is A n c (sh.inner x)) (hST : ∀ b, S b → T b → False) : Inners sh w (fun b => S b ∨ T b) ti (rs ++ [⟨x, A, n, c⟩]) := by
  refine ⟨fun r hr => ?_, ?_⟩
  · rcases List.mem_append.1 hr with hr | hr
    · exact (h.each r hr).wide fun b hb => .inl hb
    · obtain rfl := List.mem_singleton.1 hr
      exact hm.wide fun b hb => .inr hb
  · rw [List.pairwise_append]
    refine ⟨h.pair, List.pairwise_singleton _ _, fun r hr r' hr' b hb hb' => ?_⟩
    obtain rfl := List.mem_singleton.1 hr'
    exact hST b ((h.each r hr).top b hb) (hm.top b hb')
structure MineR (sh : Sh α) (w : World) (S : Nat → Prop) (t ti : TypeId) (A : Option Addr) (n c : Nat) (rs : List (Hd α)) : Prop where
  outer : Mine w S t sh.s A n c (rs.flatMap sh.enc)
  inners : Inners sh w S ti rs
  apart : ∀ r ∈ rs, ∀ b, jaj r.A b → ¬ jaj A b
def MineN (sh : Sh α) (w : World) (S : Nat → Prop) (t ti : TypeId) (A : Option Addr) (n c : Nat) (xs : List α) : Prop :=
  ∃ rs : List (Hd α), rs.map Hd.x = xs ∧ MineR sh w S t ti A n c rs
theorem MineN.next (h : MineN sh w S t ti A n c xs) (hb : Below w.heap.size w w') : MineN sh w' S t ti A n c xs := by
  obtain ⟨rs, h1, h2⟩ := h
  exact ⟨rs, h1, h2.outer.next hb, h2.inners.next hb, h2.apart⟩
theorem MineN.only (h : MineN sh w S t ti A n c xs) (ho : Only T w w') (hS : ∀ b, S b → T b → False) : MineN sh w' S t ti A n c xs := by
  obtain ⟨rs, h1, h2⟩ := h
  exact ⟨rs, h1, h2.outer.only ho hS, h2.inners.only ho hS, h2.apart⟩
theorem MineN.wide (h : MineN sh w S t ti A n c xs) (hS : ∀ b, S b → T b) : MineN sh w T t ti A n c xs := by
  obtain ⟨rs, h1, h2⟩ := h
  exact ⟨rs, h1, h2.outer.wide hS, h2.inners.wide hS, h2.apart⟩
theorem MineN.sees (h : MineN sh w S t ti A n c xs) : SeesN sh w 0 A n xs := by
  obtain ⟨rs, h1, h2⟩ := h
  exact ⟨rs, h1, h2.outer.sees, fun r hr => (h2.inners.each r hr).sees⟩
theorem MineN.nil (w : World) (S : Nat → Prop) (t ti : TypeId) : MineN sh w S t ti none 0 0 [] :=
  ⟨[], rfl, ⟨World.ownsRow_nil _ _ _ _, fun b hb => by simp [jaj, Value.ownBlock] at hb⟩, Inners.nil _, by simp⟩
theorem MineN.count (h : MineN sh w S t ti A n c xs) : xs.length = n := h.sees.count
end

section
variable {α : Type} {sh : Sh α} {w w' : World} {lo s n c t ti : Nat} {A : Option Addr} {xs : List α} {S T : Nat → Prop} {rs : List (Hd α)}
theorem jit (rs : List (Hd α)) (k j : Nat) (hk : k < rs.length) (hj : j < sh.s) : (rs.flatMap sh.enc)[k * sh.s + j]? = (sh.enc rs[k])[j]? :=
  jds rs (fun x _ => sh.len x) k j hk hj
theorem jpl (rs : List (Hd α)) : (rs.flatMap sh.enc).length = rs.length * sh.s := jak rs (fun x _ => sh.len x)
theorem jic {cs cs' : List Value} {k : Nat} (hk : k < rs.length) (r : Hd α) (h : cs.take (rs.length * sh.s) = rs.flatMap sh.enc)
    (hin : ∀ j, j < sh.s → cs'[k * sh.s + j]? = (sh.enc r)[j]?) (hout : ∀ j, ¬ (k * sh.s ≤ j ∧ j < k * sh.s + sh.s) → cs'[j]? = cs[j]?) : cs'.take (rs.length * sh.s) = (rs.set k r).flatMap sh.enc := by
  have hpos := sh.pos
  refine List.ext_getElem? fun j => ?_
  rw [List.getElem?_take]
  by_cases hj : j < rs.length * sh.s
  · rw [if_pos hj]
    have hq : j / sh.s < rs.length := Nat.div_lt_of_lt_mul (by rw [Nat.mul_comm]; exact hj)
    have hr : j % sh.s < sh.s := Nat.mod_lt _ hpos
    have hjj : j / sh.s * sh.s + j % sh.s = j := by rw [Nat.mul_comm]; exact Nat.div_add_mod j sh.s
    have e2 := jit (sh := sh) (rs.set k r) (j / sh.s) (j % sh.s) (by rw [List.length_set]; exact hq) hr
    rw [hjj] at e2
    rw [e2]
    by_cases hjk : j / sh.s = k
    · have e3 := hin (j % sh.s) hr
      rw [← hjk, hjj] at e3
      rw [e3]
      subst hjk
      simp
    · have hne : ¬ (k * sh.s ≤ j ∧ j < k * sh.s + sh.s) := by
        rintro ⟨h1, h2⟩
        apply hjk
        rw [Nat.div_eq_of_lt_le h1 (by rw [Nat.succ_mul]; exact h2)]
      have e4 := jit (sh := sh) rs (j / sh.s) (j % sh.s) hq hr
      rw [hjj, ← h, List.getElem?_take, if_pos hj] at e4
      rw [hout j hne, e4]
      congr 2
      rw [List.getElem_set_ne (fun e => hjk e.symm)]
  · rw [if_neg hj, List.getElem?_eq_none (by rw [jpl, List.length_set]; omega)]
theorem Inners.set (h : Inners sh w S ti rs) {k : Nat} (hk : k < rs.length) (y : α) (ho : Only (jaj rs[k].A) w w') (hm : Mine w' (jaj rs[k].A) ti sh.is rs[k].A rs[k].n rs[k].c (sh.inner y)) : Inners sh w' S ti (rs.set k ⟨y, rs[k].A, rs[k].n, rs[k].c⟩) := by
  have hp := List.pairwise_iff_getElem.1 h.pair
  refine ⟨fun r hr => ?_, List.pairwise_iff_getElem.2 fun i j hi hj hij b hb hb' => ?_⟩
  · obtain ⟨i, hi, rfl⟩ := List.getElem_of_mem hr
    rw [List.length_set] at hi
    rw [List.getElem_set]
    by_cases hik : k = i
    · simp only [if_pos hik]
      exact hm.wide fun b hb => (h.each rs[k] (List.getElem_mem hk)).top b hb
    · simp only [if_neg hik]
      refine ((h.each rs[i] (List.getElem_mem hi)).exact_.only ho fun b hb hb' => ?_).wide fun b hb => (h.each rs[i] (List.getElem_mem hi)).top b hb
      rcases Nat.lt_or_gt_of_ne hik with hl | hl
      · exact hp k i hk hi hl b hb' hb
      · exact hp i k hi hk hl b hb hb'
  · rw [List.length_set] at hi hj
    have hA : ∀ (i : Nat) (hi : i < rs.length) (hi' : i < (rs.set k ⟨y, rs[k].A, rs[k].n, rs[k].c⟩).length), (rs.set k ⟨y, rs[k].A, rs[k].n, rs[k].c⟩)[i].A = rs[i].A := by
      intro i hi hi'
      rw [List.getElem_set]
      by_cases hik : k = i
      · subst hik; simp
      · simp [hik]
    rw [hA i hi] at hb
    rw [hA j hj] at hb'
    exact hp i j hi hj hij b hb hb'
theorem Inners.onlyA (h : Inners sh w S ti rs) (ho : Only T w w') (hS : ∀ r ∈ rs, ∀ b, jaj r.A b → T b → False) : Inners sh w' S ti rs :=
  ⟨fun r hr => ((h.each r hr).exact_.only ho (hS r hr)).wide fun b hb => (h.each r hr).top b hb, h.pair⟩
end

end Go.Proofs.YtflpcdffmpfdpaaGreatDoor
namespace Go.Proofs.YtflpcdffmpfdpaaGreatDoor
open Go.RowKit
structure Punch where
  code : Int
  time : Int
deriving DecidableEq
def Punch.enc (x : Punch) : List Value := [.int .i64 x.code, .int .i64 x.time]
theorem jbg : (Tryz.prog.info? 188).map (fun i => (i.zero, i.size, i.bytes)) = some (some (.agg #[.int .i64 0, .int .i64 0]), 2, 16) := by kernel_rfl
def Punch.mark (k : Int) : Punch := ⟨k, k + 1⟩
structure DeskRow where
  number : Int
  missing : Int
  time : Int
deriving DecidableEq
def DeskRow.enc (x : DeskRow) : List Value := [.int .i64 x.number, .int .i64 x.missing, .int .i64 x.time]
def DeskRow.mark (k : Int) : DeskRow := ⟨k, k + 1, k + 1 + 1⟩
end Go.Proofs.YtflpcdffmpfdpaaGreatDoor
