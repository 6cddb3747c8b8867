/- Joined texts of this proof: Base, Help1, S0, Boxed, Own, Cur, Text, Cur2, CurX, CurC12, Nest, PunchT, CardT, Grid, Bfs, Copy, Nest2, Nest3, NewC, CardM, CardO, DeskT, SortP, Help2, S1, Lib1. -/
import Derived.WalkKit
import Derived.WalkSpells
import Derived.WalkLawsBesides
import Derived.LoopTactic
import Derived.RegionTactic
import Derived.Outline
import Derived.BigQuiet
import Derived.Deep.QuietTactic
import Derived.Deep.AppendLies
import Derived.Lib.Hide
import Derived.KernelRfl
import Derived.Deep.Draws
import Derived.StillTailTactics
import Derived.Deep.RegionHeld3
import Derived.Deep.DeepCutAuto
import Derived.IntWalk
import Derived.Laws.AppendOwnNone
import Derived.Laws.BitsAllLaws
import Derived.Lib.Bytealg
import Derived.Test.YtkimlajfhepfgaaGreatChecked
namespace Go.Proofs.YtkimlajfhepfgaaGreat
open Go.RowKit
theorem pA {α : Type} (l : List α) (i : Nat) (a : α) : l.toArray.setIfInBounds i a = (l.set i a).toArray := List.setIfInBounds_toArray l i a
theorem pB {α : Type} {x : α} {xs : List α} {a : α} : (x :: xs).set 0 a = a :: xs := List.set_cons_zero
theorem pC {α : Type} {x : α} {xs : List α} {i : Nat} {a : α} : (x :: xs).set (i + 1) a = x :: xs.set i a := List.set_cons_succ
theorem pD {α : Type} {xs : List α} {i : Nat} (h : i < xs.toArray.size) : xs.toArray[i] = xs[i] := List.getElem_toArray h
theorem pE {α : Type} (a : α) (l : List α) (h : 0 < (a :: l).length) : (a :: l)[0] = a := List.getElem_cons_zero a l h
theorem pF {α : Type} (a : α) (l : List α) (i : Nat) (h : i + 1 < (a :: l).length) : (a :: l)[i + 1] = l[i]'(Nat.lt_of_succ_lt_succ h) := List.getElem_cons_succ a l i h
theorem wT : type_of% @wpAnyH_take := @wpAnyH_take
theorem wR : type_of% @wpAnyH_ready := @wpAnyH_ready
theorem wD : type_of% @wpAnyH_done := @wpAnyH_done
theorem aC : type_of% @AllReadyH.cons := @AllReadyH.cons
theorem aN : type_of% @AllReadyH.nil := @AllReadyH.nil
theorem pX {α : Type} : (∀ (l : List α) (i : Nat) (a : α), l.toArray.setIfInBounds i a = (l.set i a).toArray) ∧ (∀ (x : α) (xs : List α) (a : α), (x :: xs).set 0 a = a :: xs) ∧ (∀ (x : α) (xs : List α) (i : Nat) (a : α), (x :: xs).set (i + 1) a = x :: xs.set i a) ∧ (∀ (xs : List α) (i : Nat) (h : i < xs.toArray.size), xs.toArray[i] = xs[i]'(by simpa using h)) ∧ (∀ (a : α) (l : List α) (h : 0 < (a :: l).length), (a :: l)[0] = a) ∧ (∀ (a : α) (l : List α) (i : Nat) (h : i + 1 < (a :: l).length), (a :: l)[i + 1] = l[i]'(Nat.lt_of_succ_lt_succ h)) :=
  ⟨fun l i a => pA l i a, fun _ _ _ => pB, fun _ _ _ _ => pC, fun _ _ h => pD h, pE, pF⟩

/-- The cells cs lie in w one behind the other, from the place (b, off) on. -/
def Lie (w : World) (b off : Nat) (cs : List Value) : Prop := ∀ j u, cs[j]? = some u → w.cell? ⟨b, off + j, none⟩ = some u

/-- The slice of address A, length n (elements of s cells) shows the cells cs; its block is lo or a later one. -/
structure Sees (w : World) (lo s : Nat) (A : Option Addr) (n : Nat) (cs : List Value) : Prop where
  len : cs.length = n * s
  at' : 0 < n → ∃ b off, A = some ⟨b, off, none⟩ ∧ lo ≤ b ∧ b < w.heap.size ∧ Lie w b off cs

/-- Nothing but draws lies between the two worlds. -/
def Quiet (w w' : World) : Prop := ∃ q, w' = w.drewN q
theorem Quiet.refl (w : World) : Quiet w w := ⟨0, rfl⟩
theorem Quiet.mk (w : World) (q : Nat) : Quiet w (w.drewN q) := ⟨q, rfl⟩
theorem Quiet.one (w : World) : Quiet w w.drew := ⟨1, rfl⟩
theorem Quiet.more {w w' : World} (h : Quiet w w') (n : Nat) : Quiet w (w'.drewN n) := by
  obtain ⟨q, rfl⟩ := h
  exact ⟨q + n, World.drewN_drewN ..⟩
theorem Quiet.trans {a b c : World} (h : Quiet a b) (k : Quiet b c) : Quiet a c := by
  obtain ⟨q, rfl⟩ := k
  exact h.more q
theorem Quiet.below {w w' : World} (h : Quiet w w') (B : Nat) : Below B w w' := by
  obtain ⟨q, rfl⟩ := h
  exact ⟨rfl, rfl, rfl, Nat.le_refl _, fun _ _ => rfl⟩
theorem bel_quiet {B : Nat} {a b c : World} (h : Below B a b) (k : Quiet b c) : Below B a c := h.trans (k.below B)
/-- Two calls one behind the other, each of which keeps all that it found. -/
theorem bel_then {a b c : World} (h : Below a.heap.size a b) (k : Below b.heap.size b c) : Below a.heap.size a c := h.trans (k.mono h.size)

theorem Lie.kept {w w' : World} {b off : Nat} {cs : List Value} (h : Lie w b off cs) (hk : ∀ j, w'.cell? ⟨b, j, none⟩ = w.cell? ⟨b, j, none⟩) : Lie w' b off cs :=
  fun j u hu => (hk _).trans (h j u hu)

section
variable {w w' : World} {lo s n : Nat} {A : Option Addr} {cs : List Value}
theorem Sees.below {C : Nat} (h : Sees w lo s A n cs) (hk : Below C w w') (hC : w.heap.size ≤ C) : Sees w' lo s A n cs :=
  ⟨h.len, fun hn => by
    obtain ⟨b, off, e, hb, hb', hl⟩ := h.at' hn
    exact ⟨b, off, e, hb, Nat.lt_of_lt_of_le hb' hk.size, hl.kept fun j => hk.cell (p := ⟨b, j, none⟩) (by show b < C; omega)⟩⟩
theorem Sees.next (h : Sees w lo s A n cs) (hk : Below w.heap.size w w') : Sees w' lo s A n cs := h.below hk (Nat.le_refl _)
theorem Sees.quiet (h : Sees w lo s A n cs) (hq : Quiet w w') : Sees w' lo s A n cs := h.next (hq.below _)
theorem Sees.less {lo' : Nat} (h : Sees w lo s A n cs) (hl : lo' ≤ lo) : Sees w lo' s A n cs :=
  ⟨h.len, fun hn => by
    obtain ⟨b, off, e, hb, r⟩ := h.at' hn
    exact ⟨b, off, e, by omega, r⟩⟩
theorem Sees.of_own {base e c : Nat} (h : w.ownsRow base e s (.slice A n c) n cs) : Sees w base s A n cs :=
  ⟨h.1, fun hn => by
    obtain ⟨g, cap, hv, hb, hlt⟩ := h.form hn
    injection hv with hA _ _
    subst hA
    refine ⟨g, 0, rfl, hb, hlt, fun j u hu => ?_⟩
    have h2 := h.cells (g := g) rfl j u hu
    have hadd : (⟨g, 0, none⟩ : Addr).add j = ⟨g, 0 + j, none⟩ := by unfold Addr.add; split <;> simp_all
    rwa [hadd] at h2⟩
theorem Sees.nil (w : World) (lo s : Nat) (A : Option Addr) : Sees w lo s A 0 [] := ⟨by simp, fun h => absurd h (by omega)⟩
theorem Sees.one {k : Nat} (h : Sees w lo 1 A n cs) (hk : k < n) :
    ∃ b off u, A = some ⟨b, off, none⟩ ∧ lo ≤ b ∧ b < w.heap.size ∧ cs[k]? = some u ∧ w.cell? ⟨b, off + k, none⟩ = some u := by
  obtain ⟨b, off, e, hb, hb', hl⟩ := h.at' (by omega)
  have hlen : k < cs.length := by rw [h.len]; omega
  exact ⟨b, off, cs[k], e, hb, hb', List.getElem?_eq_getElem hlen, hl k _ (List.getElem?_eq_getElem hlen)⟩
end

/-- Integers as cells. -/
def ints (xs : List Int) : List Value := xs.map (Value.int .i64)
theorem ints_length (xs : List Int) : (ints xs).length = xs.length := by simp [ints]
theorem ints_get (xs : List Int) (k : Nat) (h : k < xs.length) : (ints xs)[k]? = some (.int .i64 xs[k]) := by simp [ints, h]
theorem ints_one (xs : List Int) : ∀ u ∈ ints xs, u.oneCell' = true := by
  intro u hu
  simp only [ints, List.mem_map] at hu
  obtain ⟨x, _, rfl⟩ := hu
  rfl
theorem Sees.icount {w : World} {lo n : Nat} {A : Option Addr} {xs : List Int} (h : Sees w lo 1 A n (ints xs)) : xs.length = n := by
  have := h.len
  rw [ints_length] at this
  omega
theorem Sees.int {w : World} {lo n k : Nat} {A : Option Addr} {xs : List Int} (h : Sees w lo 1 A n (ints xs)) (hk : k < n) :
    ∃ b off, A = some ⟨b, off, none⟩ ∧ ∃ hx : k < xs.length, w.cell? ⟨b, off + k, none⟩ = some (.int .i64 xs[k]) := by
  have hl := h.icount
  obtain ⟨b, off, u, e, hb, _, hu, hc⟩ := h.one hk
  rw [ints_get xs k (by omega)] at hu
  injection hu with hu
  subst hu
  exact ⟨b, off, e, by omega, hc⟩

theorem flatMap_get {α β : Type} {f : α → List β} {s : Nat} : ∀ (l : List α) (_ : ∀ x ∈ l, (f x).length = s) (k j : Nat) (hk : k < l.length) (_ : j < s), (l.flatMap f)[k * s + j]? = (f l[k])[j]?
  | [], _, k, _, hk, _ => absurd hk (by simp)
  | x :: l, h, 0, j, _, hj => by
    have hx := h x (by simp)
    simp only [List.flatMap_cons, Nat.zero_mul, Nat.zero_add, List.getElem_cons_zero]
    rw [List.getElem?_append_left (by omega)]
  | x :: l, h, k + 1, j, hk, hj => by
    have hx := h x (by simp)
    simp only [List.flatMap_cons, List.getElem_cons_succ]
    rw [List.getElem?_append_right (by rw [hx, Nat.succ_mul]; omega), ← flatMap_get l (fun y hy => h y (by simp [hy])) k j (by simpa using hk) hj]
    congr 1
    rw [hx, Nat.succ_mul]
    omega
theorem flatMap_len {α β : Type} {f : α → List β} {s : Nat} : ∀ (l : List α) (_ : ∀ x ∈ l, (f x).length = s), (l.flatMap f).length = l.length * s
  | [], _ => by simp
  | x :: l, h => by
    rw [List.flatMap_cons, List.length_append, flatMap_len l (fun y hy => h y (by simp [hy])), h x (by simp), List.length_cons, Nat.succ_mul]
    omega
section
variable {α : Type} {enc : α → List Value} {w : World} {lo s n k : Nat} {A : Option Addr} {ds : List α}
theorem Sees.count (h : Sees w lo s A n (ds.flatMap enc)) (hs : 0 < s) (henc : ∀ x, (enc x).length = s) : ds.length = n := by
  have hl := h.len
  rw [flatMap_len ds (fun x _ => henc x)] at hl
  exact Nat.eq_of_mul_eq_mul_right hs hl
/-- Element k of a slice of structs of s cells. -/
theorem Sees.elem (h : Sees w lo s A n (ds.flatMap enc)) (hs : 0 < s) (henc : ∀ x, (enc x).length = s) (hk : k < n) :
    ∃ b off, A = some ⟨b, off, none⟩ ∧ ∃ hx : k < ds.length, ∀ j u, (enc ds[k])[j]? = some u → w.cell? ⟨b, off + k * s + j, none⟩ = some u := by
  have hl' := h.count hs henc
  obtain ⟨b, off, e, _, _, hlie⟩ := h.at' (by omega)
  refine ⟨b, off, e, by omega, fun j u hu => ?_⟩
  have hj : j < s := by
    have := (List.getElem?_eq_some_iff.1 hu).1
    rw [henc] at this
    exact this
  rw [Nat.add_assoc]
  exact hlie _ _ (by rw [flatMap_get ds (fun x _ => henc x) k j (by omega) hj, hu])
theorem Sees.elem2 {f0 f1 : α → Value} (h : Sees w lo 2 A n (ds.flatMap enc)) (he : ∀ x, enc x = [f0 x, f1 x]) (hk : k < n) :
    ∃ b off, A = some ⟨b, off, none⟩ ∧ ∃ hx : k < ds.length, w.cell? ⟨b, off + k * 2, none⟩ = some (f0 ds[k]) ∧ w.cell? ⟨b, off + k * 2 + 1, none⟩ = some (f1 ds[k]) := by
  obtain ⟨b, off, e, hx, hc⟩ := h.elem (by decide) (fun x => by rw [he]; rfl) hk
  exact ⟨b, off, e, hx, hc 0 _ (by rw [he]; rfl), hc 1 _ (by rw [he]; rfl)⟩
theorem Sees.elem3 {f0 f1 f2 : α → Value} (h : Sees w lo 3 A n (ds.flatMap enc)) (he : ∀ x, enc x = [f0 x, f1 x, f2 x]) (hk : k < n) :
    ∃ b off, A = some ⟨b, off, none⟩ ∧ ∃ hx : k < ds.length, w.cell? ⟨b, off + k * 3, none⟩ = some (f0 ds[k]) ∧ w.cell? ⟨b, off + k * 3 + 1, none⟩ = some (f1 ds[k]) ∧ w.cell? ⟨b, off + k * 3 + 2, none⟩ = some (f2 ds[k]) := by
  obtain ⟨b, off, e, hx, hc⟩ := h.elem (by decide) (fun x => by rw [he]; rfl) hk
  exact ⟨b, off, e, hx, hc 0 _ (by rw [he]; rfl), hc 1 _ (by rw [he]; rfl), hc 2 _ (by rw [he]; rfl)⟩
theorem Sees.elem4 {f0 f1 f2 f3 : α → Value} (h : Sees w lo 4 A n (ds.flatMap enc)) (he : ∀ x, enc x = [f0 x, f1 x, f2 x, f3 x]) (hk : k < n) :
    ∃ b off, A = some ⟨b, off, none⟩ ∧ ∃ hx : k < ds.length, w.cell? ⟨b, off + k * 4, none⟩ = some (f0 ds[k]) ∧ w.cell? ⟨b, off + k * 4 + 1, none⟩ = some (f1 ds[k]) ∧ w.cell? ⟨b, off + k * 4 + 2, none⟩ = some (f2 ds[k]) ∧ w.cell? ⟨b, off + k * 4 + 3, none⟩ = some (f3 ds[k]) := by
  obtain ⟨b, off, e, hx, hc⟩ := h.elem (by decide) (fun x => by rw [he]; rfl) hk
  exact ⟨b, off, e, hx, hc 0 _ (by rw [he]; rfl), hc 1 _ (by rw [he]; rfl), hc 2 _ (by rw [he]; rfl), hc 3 _ (by rw [he]; rfl)⟩
end

/-- Block g is known whole. -/
def Blk (w : World) (g : Nat) (t : TypeId) (cs : List Value) : Prop := w.heap[g]? = some (.cells cs.toArray t (0, 0))
section
variable {w w' : World} {g : Nat} {t : TypeId} {cs : List Value}
theorem Blk.lt (h : Blk w g t cs) : g < w.heap.size := by
  rcases Nat.lt_or_ge g w.heap.size with hlt | hge
  · exact hlt
  · unfold Blk at h; rw [Array.getElem?_eq_none hge] at h; cases h
theorem Blk.cell (h : Blk w g t cs) (i : Nat) : w.cell? ⟨g, i, none⟩ = cs[i]? := by
  have := cell_of_row w g i cs.toArray t (0, 0) h
  simpa using this
theorem Blk.frozen (h : Blk w g t cs) (i : Nat) : w.frozen? ⟨g, i, none⟩ = false := by
  unfold Blk at h
  simp [World.frozen?, h]
theorem Blk.new (w : World) (t : TypeId) (cs : List Value) : Blk (w.alloc (.cells cs.toArray t)) w.heap.size t cs := heap_alloc_new w _
theorem Blk.at_ (hg : w.heap.size = g) : Blk (w.alloc (.cells cs.toArray t)) g t cs := hg ▸ Blk.new w t cs
theorem Blk.alloc (h : Blk w g t cs) (o : Obj) : Blk (w.alloc o) g t cs := (Below.heap_alloc w o g h.lt).trans h
theorem Blk.drewN (h : Blk w g t cs) (n : Nat) : Blk (w.drewN n) g t cs := h
theorem Blk.quiet (h : Blk w g t cs) (hq : Quiet w w') : Blk w' g t cs := by
  obtain ⟨q, rfl⟩ := hq
  exact h
theorem Blk.next (h : Blk w g t cs) (hb : Below w.heap.size w w') : Blk w' g t cs := (hb.block g h.lt).trans h
theorem Blk.set_ (h : Blk w g t cs) (i : Nat) (u : Value) : Blk (w.setCell ⟨g, i, none⟩ u) g t (cs.set i u) := by
  unfold Blk at h ⊢
  simp [World.setCell, Array.getElem?_modify, h]
theorem Blk.far (h : Blk w g t cs) {p : Addr} (hp : g ≠ p.block) (u : Value) : Blk (w.setCell p u) g t cs := (Below.heap_setCell w p u g hp).trans h
theorem Blk.own (h : Blk w g t cs) {base s n : Nat} (hb : base ≤ g) (hn : cs.length = n * s) (hm : n ≤ maxLen) : w.ownsRow base t s (.slice (some ⟨g, 0, none⟩) n n) n cs :=
  ⟨hn, .inr ⟨g, n, cs.toArray, rfl, hb, h, Nat.le_refl _, hm, by simpa using hn, by simp [← hn]⟩⟩
end

/-- The block of a slice. -/
def OwnB (A : Option Addr) (b : Nat) : Prop := (Value.slice A 0 0).ownBlock = some b
theorem ownB_iff {A : Option Addr} {n c b : Nat} : (Value.slice A n c).ownBlock = some b ↔ OwnB A b := by cases A <;> simp [OwnB, Value.ownBlock]
/-- Of what was there nothing but blocks of S has been written; new blocks may have been made. -/
structure Only (S : Nat → Prop) (w w' : World) : Prop where
  os : w'.os = w.os
  tape : w'.tape = w.tape
  output : w'.output = w.output
  size : w.heap.size ≤ w'.heap.size
  block : ∀ k, k < w.heap.size → ¬ S k → w'.heap[k]? = w.heap[k]?
theorem Only.refl (S : Nat → Prop) (w : World) : Only S w w := ⟨rfl, rfl, rfl, Nat.le_refl _, fun _ _ _ => rfl⟩
theorem Only.trans {S : Nat → Prop} {a b c : World} (h : Only S a b) (k : Only S b c) : Only S a c :=
  ⟨k.os.trans h.os, k.tape.trans h.tape, k.output.trans h.output, Nat.le_trans h.size k.size, fun i hi hS => (k.block i (Nat.lt_of_lt_of_le hi h.size) hS).trans (h.block i hi hS)⟩
theorem Only.mono {S T : Nat → Prop} {a b : World} (h : Only S a b) (hS : ∀ k, S k → T k) : Only T a b := ⟨h.os, h.tape, h.output, h.size, fun i hi hT => h.block i hi (fun hs => hT (hS i hs))⟩
theorem Only.quiet {S : Nat → Prop} {a b c : World} (h : Only S a b) (k : Quiet b c) : Only S a c := by
  obtain ⟨q, rfl⟩ := k
  exact ⟨h.os, h.tape, h.output, h.size, h.block⟩
theorem Only.of_below {S : Nat → Prop} {a b : World} (h : Below a.heap.size a b) : Only S a b := ⟨h.os, h.tape, h.output, h.size, fun i hi _ => h.block i hi⟩
theorem Only.then_ {S : Nat → Prop} {a b c : World} (h : Only S a b) (k : Below b.heap.size b c) : Only S a c := h.trans (.of_below k)
theorem Only.setCell {S : Nat → Prop} {a w : World} (h : Only S a w) {p : Addr} (hp : S p.block) (u : Value) : Only S a (w.setCell p u) :=
  h.trans ⟨rfl, rfl, rfl, by simp [World.setCell], fun k _ hk => Below.heap_setCell _ _ _ _ (fun e => hk (by rw [e]; exact hp))⟩
theorem Only.below {S : Nat → Prop} {w w' : World} {B : Nat} (h : Only S w w') (hS : ∀ k, S k → B ≤ k) (hB : B ≤ w.heap.size) : Below B w w' := ⟨h.os, h.tape, h.output, h.size, fun k hk => h.block k (by omega) (fun hs => by have := hS k hs; omega)⟩
/-- An empty literal. -/
theorem own_empty (w : World) (t s : Nat) : (w.alloc (.cells #[] t)).ownsRow w.heap.size t s (.slice (some ⟨w.heap.size, 0, none⟩) 0 0) 0 [] :=
  ⟨by simp, .inr ⟨w.heap.size, 0, #[], rfl, Nat.le_refl _, heap_alloc_new w _, Nat.le_refl _, by simp [maxLen], by simp, by simp⟩⟩
/-- x = append(x, v): one element of s cells, boxed in block b just ahead of it. -/
theorem wpList_push {P : Program} {w : World} {ops : Array Oper} {rest : List Oper} {o : Oper} {a : Act} {Q : Exit → Act → World → Prop} (hgd : o.guard = none) (sx xx : Operand) (t : TypeId)
    (ho : o.op = .call { callee := .builtin .append, args := #[sx, xx], argTypes := #[t, t] })
    {base : Nat} {e : TypeId} {z : Value} {s bytes : Nat} (ht : P.underlying t = some (.slice e)) (hi : (P.info? e).map (fun i => (i.zero, i.size, i.bytes)) = some (some z, s, bytes)) (hzs : z.cells.size = s) (hsz : 0 < s)
    {A : Option Addr} {n c : Nat} {xs : List Value} (hs : a.eval sx = .slice A n c) (hown : w.ownsRow base e s (.slice A n c) n xs)
    {b : Nat} {vals : List Value} {e' : TypeId} (hx : a.eval xx = .slice (some ⟨b, 0, none⟩) 1 1) (hB : w.heap[b]? = some (.cells vals.toArray e' (0, 0))) (hl : vals.length = s) (h1 : vals.all Value.oneCell' = true)
    (hn : n ≤ 1000000000) (hby : bytes ≤ 1000) (hbase : base ≤ w.heap.size)
    (h : ∀ (A' : Option Addr) (c' : Nat) (w' : World), w'.ownsRow base e s (.slice A' (n + 1) c') (n + 1) (xs ++ vals) → w.grownBy w' (Value.slice A n c).ownBlock → Below base w w' → wpList P ops Q rest (a.put o.dst (.slice A' (n + 1) c')) w') : wpList P ops Q (o :: rest) a w := by
  obtain ⟨i0, hi, hz0, hz1, hz2⟩ := info_parts hi
  refine wpList_append_lies w hgd sx xx t ho base e i0 z s bytes ht hi hz0 hz1 hz2 hzs hsz _ n xs hs hown ⟨b, 0, none⟩ 1 1 vals hx (by omega) (fun j u hu => ?_) (List.all_eq_true.1 h1) (by decide) (by simp only [maxLen]; omega) ?_ hbase _ rfl (fun g cap w' h2 h3 _ _ => h _ _ w' h2 h3 ((Below.refl _ _).grown h3 hbase (fun k hk => (hown.lt k hk).1)))
  · have hadd : (⟨b, 0, none⟩ : Addr).add j = ⟨b, j, none⟩ := by unfold Addr.add; split <;> simp_all
    have := cell_of_row w b j vals.toArray e' (0, 0) hB
    rw [hadd, this]
    simpa using hu
  · exact Nat.le_trans (Nat.mul_le_mul (show n + 1 ≤ 1000000001 by omega) hby) (by decide)
/-- x = append(x, v), where v has just been boxed in a new block: the world is told ahead of that box. -/
theorem wpList_pushNew {P : Program} {w : World} {ops : Array Oper} {rest : List Oper} {o : Oper} {a : Act} {Q : Exit → Act → World → Prop} (hgd : o.guard = none) (sx xx : Operand) (t : TypeId)
    (ho : o.op = .call { callee := .builtin .append, args := #[sx, xx], argTypes := #[t, t] })
    {base : Nat} {e : TypeId} {z : Value} {s bytes : Nat} (ht : P.underlying t = some (.slice e)) (hi : (P.info? e).map (fun i => (i.zero, i.size, i.bytes)) = some (some z, s, bytes)) (hzs : z.cells.size = s) (hsz : 0 < s)
    {A : Option Addr} {n c : Nat} {xs : List Value} (hs : a.eval sx = .slice A n c) (hown : w.ownsRow base e s (.slice A n c) n xs)
    {vals : List Value} {e' : TypeId} {bH : Nat} (hx : a.eval xx = .slice (some ⟨bH, 0, none⟩) 1 1) (hH : w.heap.size = bH) (hl : vals.length = s) (h1 : vals.all Value.oneCell' = true)
    (hn : n ≤ 1000000000) (hby : bytes ≤ 1000) (hbase : base ≤ w.heap.size)
    (h : ∀ (A' : Option Addr) (c' : Nat) (w' : World), w'.ownsRow base e s (.slice A' (n + 1) c') (n + 1) (xs ++ vals) → Only (OwnB A) w w' → Below base w w' → (∀ b, OwnB A' b → OwnB A b ∨ w.heap.size ≤ b) → wpList P ops Q rest (a.put o.dst (.slice A' (n + 1) c')) w') : wpList P ops Q (o :: rest) a (w.alloc (.cells vals.toArray e')) := by
  obtain ⟨i0, hi, hz0, hz1, hz2⟩ := info_parts hi
  subst hH
  have hsz' : w.heap.size + 1 = (w.alloc (.cells vals.toArray e')).heap.size := by simp
  refine wpList_append_lies _ hgd sx xx t ho base e i0 z s bytes ht hi hz0 hz1 hz2 hzs hsz _ n xs hs (hown.alloc _) ⟨w.heap.size, 0, none⟩ 1 1 vals hx (by omega) (fun j u hu => ?_) (List.all_eq_true.1 h1) (by decide) (by simp only [maxLen]; omega) ?_ (by omega) _ rfl (fun g cap w' h2 h3 h4 _ => h _ _ w' h2 ?_ ?_ ?_)
  · have hadd : (⟨w.heap.size, 0, none⟩ : Addr).add j = ⟨w.heap.size, j, none⟩ := by unfold Addr.add; split <;> simp_all
    have := cell_of_row _ w.heap.size j vals.toArray e' (0, 0) (heap_alloc_new w (.cells vals.toArray e'))
    rw [hadd, this]
    simpa using hu
  · exact Nat.le_trans (Nat.mul_le_mul (show n + 1 ≤ 1000000001 by omega) hby) (by decide)
  · have h5 := World.grownBy_alloc w (.cells vals.toArray e') (Value.slice A n c).ownBlock
    exact ⟨h3.os.trans h5.os, h3.tape.trans h5.tape, h3.output.trans h5.output, Nat.le_trans h5.size h3.size, fun k hk hS => (h3.block k (Nat.lt_of_lt_of_le hk h5.size) (fun e => hS (ownB_iff.1 e.symm))).trans (h5.block k hk (fun e => hS (ownB_iff.1 e.symm)))⟩
  · exact ((Below.refl base w).alloc hbase _).grown h3 (by omega) (fun k hk => (hown.lt k hk).1)
  · intro b hb
    have hb' : g = b := by simpa [OwnB, Value.ownBlock] using hb
    subst hb'
    rcases h4 with h4 | h4
    · exact .inl (ownB_iff.1 h4)
    · exact .inr (by omega)
/-- What the call owns stays so where all of its blocks are kept. -/
theorem own_below {w w' : World} {base e s n : Nat} {v : Value} {xs : List Value} (h : w.ownsRow base e s v n xs) (hb : Below w.heap.size w w') : w'.ownsRow base e s v n xs := by
  refine ⟨h.1, ?_⟩
  rcases h.2 with h2 | ⟨g, cap, cur, rfl, h3, h4, h5⟩
  · exact .inl h2
  · refine .inr ⟨g, cap, cur, rfl, h3, ?_, h5⟩
    rw [hb.block g (Array.getElem?_eq_some_iff.1 h4).1]
    exact h4
theorem own_alloc {w : World} {base e s n : Nat} {v : Value} {xs : List Value} (h : w.ownsRow base e s v n xs) (o : Obj) : (w.alloc o).ownsRow base e s v n xs := h.alloc o
theorem own_open {w : World} {base t s n c : Nat} {A : Option Addr} {xs : List Value} (h : w.ownsRow base t s (.slice A n c) n xs) :
    (A = none ∧ n = 0 ∧ c = 0 ∧ xs = []) ∨ ∃ (g : Nat) (cur : List Value), A = some ⟨g, 0, none⟩ ∧ base ≤ g ∧ Blk w g t cur ∧ cur.length = c * s ∧ n ≤ c ∧ c ≤ maxLen ∧ cur.take (n * s) = xs := by
  rcases h.2 with ⟨hv, hn⟩ | ⟨g, cap, cur, hv, hb, hg, h1, h2, h3, h4⟩
  · injection hv with e1 e2 e3
    exact .inl ⟨e1, e2, e3, List.eq_nil_of_length_eq_zero (by rw [h.1, hn]; simp)⟩
  · injection hv with e1 e2 e3
    subst e3
    exact .inr ⟨g, cur.toList, e1, hb, by simpa [Blk] using hg, by simpa using h3, h1, h2, h4⟩
theorem own_shut {w : World} {base t s n c g : Nat} {xs cur : List Value} (hb : base ≤ g) (hg : Blk w g t cur) (hc : cur.length = c * s) (hn : n ≤ c) (hm : c ≤ maxLen) (ht : cur.take (n * s) = xs) : w.ownsRow base t s (.slice (some ⟨g, 0, none⟩) n c) n xs := by
  have hle : n * s ≤ c * s := Nat.mul_le_mul_right s hn
  exact ⟨by rw [← ht, List.length_take]; omega, .inr ⟨g, c, cur.toArray, rfl, hb, hg, hn, hm, by simpa using hc, by simpa using ht⟩⟩
/-- Values written one behind the other. -/
def setMany {α : Type} : List α → Nat → List α → List α
  | cs, _, [] => cs
  | cs, i, v :: vs => setMany (cs.set i v) (i + 1) vs
def setManyW : World → Nat → Nat → List Value → World
  | w, _, _, [] => w
  | w, g, i, v :: vs => setManyW (w.setCell ⟨g, i, none⟩ v) g (i + 1) vs
theorem Blk.many {t : TypeId} {g : Nat} : ∀ (vs : List Value) {w : World} {cs : List Value} (_ : Blk w g t cs) (i : Nat), Blk (setManyW w g i vs) g t (setMany cs i vs)
  | [], _, _, h, _ => h
  | v :: vs, _, _, h, i => Blk.many vs (h.set_ i v) (i + 1)
theorem setMany_length {α : Type} : ∀ (vs cs : List α) (i : Nat), (setMany cs i vs).length = cs.length
  | [], _, _ => rfl
  | v :: vs, cs, i => by rw [setMany, setMany_length vs]; simp
theorem setMany_get {α : Type} : ∀ (vs cs : List α) (i j : Nat), i + vs.length ≤ cs.length → (setMany cs i vs)[j]? = if i ≤ j ∧ j < i + vs.length then vs[j - i]? else cs[j]?
  | [], cs, i, j, _ => by rw [if_neg (by simp only [List.length_nil]; omega)]; rfl
  | v :: vs, cs, i, j, h => by
    simp only [List.length_cons] at h
    rw [setMany, setMany_get vs _ (i + 1) j (by simp; omega)]
    by_cases h1 : i + 1 ≤ j ∧ j < i + 1 + vs.length
    · rw [if_pos h1, if_pos (by simp only [List.length_cons]; omega)]
      have : j - i = (j - (i + 1)) + 1 := by omega
      rw [this, List.getElem?_cons_succ]
    · rw [if_neg h1]
      by_cases h2 : j = i
      · subst h2
        rw [if_pos (by simp only [List.length_cons]; omega), Nat.sub_self, List.getElem?_set_self (by omega)]
        rfl
      · rw [if_neg (by simp only [List.length_cons]; omega), List.getElem?_set_ne (by omega)]
/-- The first k elements (of s cells each) of cs are those of xs, and there is room for all. -/
structure Upto {α : Type} (enc : α → List Value) (s : Nat) (xs : List α) (k : Nat) (cs : List Value) : Prop where
  len : xs.length * s ≤ cs.length
  get : ∀ j, j < k * s → cs[j]? = (xs.flatMap enc)[j]?
section
variable {α : Type} {enc : α → List Value} {s : Nat} {xs : List α} {k : Nat} {cs : List Value}
theorem Upto.zero (h : xs.length * s ≤ cs.length) : Upto enc s xs 0 cs := ⟨h, fun j hj => by omega⟩
theorem Upto.step (h : Upto enc s xs k cs) (henc : ∀ x, (enc x).length = s) (hk : k < xs.length) : Upto enc s xs (k + 1) (setMany cs (k * s) (enc xs[k])) := by
  have hle : (k + 1) * s ≤ xs.length * s := Nat.mul_le_mul_right s hk
  rw [Nat.succ_mul] at hle
  have hl := h.len
  refine ⟨by rw [setMany_length]; exact hl, fun j hj => ?_⟩
  rw [Nat.succ_mul] at hj
  rw [setMany_get _ _ _ _ (by rw [henc]; omega), henc]
  by_cases h1 : k * s ≤ j ∧ j < k * s + s
  · rw [if_pos h1, ← flatMap_get xs (fun x _ => henc x) k (j - k * s) hk (by omega)]
    congr 1
    omega
  · rw [if_neg h1]
    exact h.get j (by omega)
/-- The places of element k are there (for a store). -/
theorem Upto.room {w : World} {g : Nat} {t : TypeId} (h : Upto enc s xs k cs) (hB : Blk w g t cs) (hk : k < xs.length) (j : Nat) (hj : j < s) : ∃ u, w.cell? ⟨g, k * s + j, none⟩ = some u := by
  have hle : (k + 1) * s ≤ xs.length * s := Nat.mul_le_mul_right s hk
  rw [Nat.succ_mul] at hle
  have hl := h.len
  have hlt : k * s + j < cs.length := by omega
  exact ⟨_, (hB.cell _).trans (List.getElem?_eq_getElem hlt)⟩
theorem Upto.all (h : Upto enc s xs k cs) (henc : ∀ x, (enc x).length = s) (hk : k = xs.length) : cs.take (xs.length * s) = xs.flatMap enc := by
  subst hk
  have hl := h.len
  refine List.ext_getElem? fun j => ?_
  rw [List.getElem?_take]
  by_cases hj : j < xs.length * s
  · rw [if_pos hj]; exact h.get j hj
  · rw [if_neg hj, List.getElem?_eq_none (by rw [flatMap_len xs (fun x _ => henc x)]; omega)]
end
theorem Only.many {S : Nat → Prop} {a : World} {g : Nat} (hg : S g) : ∀ (vs : List Value) {w : World} (_ : Only S a w) (i : Nat), Only S a (setManyW w g i vs)
  | [], _, h, _ => h
  | v :: vs, _, h, i => Only.many hg vs (h.setCell (p := ⟨g, i, none⟩) hg v) (i + 1)
theorem Sees.only {S : Nat → Prop} {w w' : World} {lo s n : Nat} {A : Option Addr} {cs : List Value} (h : Sees w lo s A n cs) (hk : Only S w w') (hS : ∀ b off, A = some ⟨b, off, none⟩ → 0 < n → ¬ S b) : Sees w' lo s A n cs :=
  ⟨h.len, fun hn => by
    obtain ⟨b, off, e, hb, hb', hl⟩ := h.at' hn
    exact ⟨b, off, e, hb, Nat.lt_of_lt_of_le hb' hk.size, hl.kept fun j => World.cell?_of_block (hk.block b hb' (hS b off e hn))⟩⟩
/-- Later blocks alone have been written: what lies before them is as it was. -/
theorem Blk.only {S : Nat → Prop} {w w' : World} {g : Nat} {t : TypeId} {cs : List Value} (h : Blk w g t cs) (hk : Only S w w') (hS : ¬ S g) : Blk w' g t cs := (hk.block g h.lt hS).trans h
theorem Blk.sees {w : World} {g lo s n : Nat} {t : TypeId} {cs : List Value} (h : Blk w g t cs) (hl : lo ≤ g) (hn : cs.length = n * s) : Sees w lo s (some ⟨g, 0, none⟩) n cs :=
  ⟨hn, fun _ => ⟨g, 0, rfl, hl, h.lt, fun j u hu => by rw [h.cell, Nat.zero_add]; exact hu⟩⟩

/-- make([]T, n): a block of n times s zero cells, in whatever world. -/
theorem make_zeros {P : Program} {t e : TypeId} {z : Value} {s bytes : Nat} (n : Nat) (ht : P.underlying t = some (.slice e)) (hi : (P.info? e).map (fun i => (i.zero, i.size, i.bytes)) = some (some z, s, bytes)) (hb : bytes * n ≤ 281474976710656) (hn : n ≤ 1000000000000) :
    ∃ zs : List Value, zs.length = n * s ∧ ∀ w : World, (Instr.makeSlice t (.int .i64 (n : Int)) (.int .i64 (n : Int))).run P w = .ok (.slice (some ⟨w.heap.size, 0, none⟩) n n) (w.alloc (.cells zs.toArray e)) := by
  obtain ⟨i0, hi, hz0, hz1, hz2⟩ := info_parts hi
  refine ⟨(madeCells z.cells (n * i0.size)).toList, by simp [size_madeCells, hz1], fun w => ?_⟩
  have := run_make (P := P) w t e i0 z ht hi hz0 .i64 .i64 n n (by omega) (by omega) (by rw [hz2]; have h : ((bytes * n : Nat) : Int) ≤ 281474976710656 := by omega
                                                                                         rwa [Int.natCast_mul] at h) (by omega)
  simpa using this

/-- Blocks from lo on, before hi. -/
def In (lo hi b : Nat) : Prop := lo ≤ b ∧ b < hi
theorem own_base {w : World} {base base' e s n : Nat} {v : Value} {xs : List Value} (h : w.ownsRow base e s v n xs) (hb : base' ≤ base) : w.ownsRow base' e s v n xs :=
  ⟨h.1, h.2.imp id fun ⟨g, cap, cur, h1, h2, h3⟩ => ⟨g, cap, cur, h1, Nat.le_trans hb h2, h3⟩⟩
/-- A slice of this call's own whose block is in S. -/
structure Mine (w : World) (S : Nat → Prop) (t s : Nat) (A : Option Addr) (n c : Nat) (cs : List Value) : Prop where
  own : w.ownsRow 0 t s (.slice A n c) n cs
  top : ∀ b, OwnB A b → S b
section
variable {w w' : World} {S T : Nat → Prop} {t s n c : Nat} {A : Option Addr} {cs : List Value}
theorem Mine.of {base : Nat} (h : w.ownsRow base t s (.slice A n c) n cs) : Mine w (In base w.heap.size) t s A n c cs := ⟨own_base h (Nat.zero_le _), fun b hb => h.lt b (ownB_iff.2 hb)⟩
theorem Mine.lt (h : Mine w S t s A n c cs) : ∀ b, OwnB A b → b < w.heap.size := fun b hb => (h.own.lt b (ownB_iff.2 hb)).2
theorem Mine.next (h : Mine w S t s A n c cs) (hb : Below w.heap.size w w') : Mine w' S t s A n c cs := ⟨own_below h.own hb, h.top⟩
theorem Mine.only (h : Mine w S t s A n c cs) (ho : Only T w w') (hS : ∀ b, S b → T b → False) : Mine w' S t s A n c cs := by
  refine ⟨?_, h.top⟩
  rcases own_open h.own with ⟨rfl, rfl, rfl, rfl⟩ | ⟨g, cur, rfl, h1, h2, h3, h4, h5, h6⟩
  · exact World.ownsRow_nil _ _ _ _
  · exact own_shut h1 (h2.only ho (hS g (h.top g rfl))) h3 h4 h5 h6
theorem Mine.sees (h : Mine w S t s A n c cs) : Sees w 0 s A n cs := .of_own h.own
theorem Mine.wide (h : Mine w S t s A n c cs) (h1 : ∀ b, S b → T b) : Mine w T t s A n c cs := ⟨h.own, fun b hb => h1 b (h.top b hb)⟩
theorem Mine.exact_ (h : Mine w S t s A n c cs) : Mine w (OwnB A) t s A n c cs := ⟨h.own, fun _ hb => hb⟩
end

/-- What a helper of the laws writes into a slice of structs: number k on, s numbers an element. -/
def marksOf {α : Type} (f : Int → α) (s : Nat) (k : Int) (n : Nat) : List α := (List.range n).map fun i : Nat => f (k + (i : Int) * (s : Int))
theorem bcell {W w1 : World} (hb : Below W.heap.size W w1) : (∀ b o, b < W.heap.size → w1.cell? ⟨b, o, none⟩ = W.cell? ⟨b, o, none⟩) ∧ (∀ b o, b < W.heap.size → w1.frozen? ⟨b, o, none⟩ = W.frozen? ⟨b, o, none⟩) :=
  ⟨fun b o h => hb.cell (p := ⟨b, o, none⟩) h, fun b o h => hb.frozen (p := ⟨b, o, none⟩) h⟩

/-- A callee that leaves the world as it is, inside a region that draws. -/
theorem quiet_left {P : Program} {f : FuncId} {args : Array Value} {w : World} {n : Nat} {v : Value} (h : Calls P f args (w.drewN n) fun e w' => e = .returned v ∧ w.drewN n = w') : Calls P f args (w.drewN n) fun e w'' => e = .returned v ∧ ∃ m, w'' = w.drewN m :=
  h.mono fun _ _ ⟨he, hm⟩ => ⟨he, n, hm.symm⟩
/-- p holds at all numbers before n. -/
def allTo (n : Nat) (p : Nat → Bool) : Bool := (List.range n).all p
theorem allTo_zero (p : Nat → Bool) : allTo 0 p = true := rfl
theorem allTo_succ {n : Nat} {p : Nat → Bool} (h : allTo n p = true) (hp : p n = true) : allTo (n + 1) p = true := by
  unfold allTo at *
  rw [List.range_succ, List.all_append, h]
  simp [hp]
theorem allTo_false {n k : Nat} {p : Nat → Bool} (hk : k < n) (hp : p k = false) : allTo n p = false := by
  unfold allTo
  rw [List.all_eq_false]
  exact ⟨k, List.mem_range.2 hk, by simp [hp]⟩
theorem allTo_at {n k : Nat} {p : Nat → Bool} (h : allTo n p = true) (hk : k < n) : p k = true := List.all_eq_true.1 h k (List.mem_range.2 hk)
theorem ret_bool {a b : Bool} (h : a = b) : Ending.returned (.bool a) = .returned (.bool b) := by rw [h]
theorem ret_int {a b : Int} (h : a = b) : Ending.returned (.int .i64 a) = .returned (.int .i64 b) := by rw [h]
end Go.Proofs.YtkimlajfhepfgaaGreat

namespace Go.Proofs.YtkimlajfhepfgaaGreat
open Go.RowKit

theorem info_int : (Tryz.prog.info? 3).map (fun i => (i.zero, i.size, i.bytes)) = some (some (.int .i64 0), 1, 8) := by kernel_rfl

/-- The numbers from k on, n of them. -/
def marks (k : Int) (n : Nat) : List Int := (List.range n).map fun i : Nat => k + (i : Int)
end Go.Proofs.YtkimlajfhepfgaaGreat

namespace Go.Proofs.YtkimlajfhepfgaaGreat
open Go.RowKit

/-- a number in a range -/
def inB (n lo hi : Int) : Bool := decide (lo ≤ n) && decide (n ≤ hi)
theorem inB_true {n lo hi : Int} (h : inB n lo hi = true) : lo ≤ n ∧ n ≤ hi := by simpa [inB] using h

theorem inside_any (n lo hi : Int) (w : World) : Calls Tryz.prog 45 #[.int .i64 n, .int .i64 lo, .int .i64 hi] w fun e w' => e = .returned (.bool (inB n lo hi)) ∧ w = w' := by
  go_enter Tryz.func45, Tryz.ntmps45
  go_wp2
  all_goals go_ret
  all_goals exact ⟨ret_bool (by simp [inB]; omega), rfl⟩
theorem l1In_any (n lo hi : Int) (w : World) : Calls Tryz.prog 77 #[.int .i64 n, .int .i64 lo, .int .i64 hi] w fun e w' => e = .returned (.bool (inB n lo hi)) ∧ w = w' := by
  go_enter Tryz.func77, Tryz.ntmps77
  go_wp2
  all_goals go_ret
  all_goals exact ⟨ret_bool (by simp [inB]; omega), rfl⟩
theorem isTime_any (n : Int) (w : World) : Calls Tryz.prog 46 #[.int .i64 n] w fun e w' => e = .returned (.bool (inB n 0 36000)) ∧ w = w' := by
  go_enter Tryz.func46, Tryz.ntmps46
  go_wp2_with (go_at_call 45; refine (inside_any _ _ _ _).mono ?_; rintro e w' ⟨rfl, rfl⟩)
  go_ret
  exact ⟨rfl, rfl⟩
theorem l12Time_any (n : Int) (w : World) : Calls Tryz.prog 78 #[.int .i64 n] w fun e w' => e = .returned (.bool (inB n 0 36000)) ∧ w = w' := by
  go_enter Tryz.func78, Tryz.ntmps78
  go_wp2_with (go_at_call 77; refine (l1In_any _ _ _ _).mono ?_; rintro e w' ⟨rfl, rfl⟩)
  go_ret
  exact ⟨rfl, rfl⟩
/-- A list of integers in memory of the call's own, and a word on whether there is one. -/
def GivesInts (w : World) (R : Option (List Int)) (e : Ending) (w' : World) : Prop :=
  ∃ A c, e = .returned (.tuple #[.slice A (R.getD []).length c, .bool R.isSome]) ∧ w'.ownsRow w.heap.size 3 1 (.slice A (R.getD []).length c) (R.getD []).length (ints (R.getD [])) ∧ Below w.heap.size w w'

theorem gives_nil {w w' : World} (h : Below w.heap.size w w') : GivesInts w none (.returned (.tuple #[.slice none 0 0, .bool false])) w' :=
  ⟨none, 0, rfl, World.ownsRow_nil _ _ _ _, h⟩
theorem own_len {w : World} {base t n c : Nat} {A : Option Addr} {xs : List Int} (h : w.ownsRow base t 1 (.slice A n c) n (ints xs)) : xs.length = n := by
  have := h.1
  rw [ints_length] at this
  omega

end Go.Proofs.YtkimlajfhepfgaaGreat

namespace Go.Proofs.YtkimlajfhepfgaaGreat
open Go.RowKit

/-- What a slot s points to: a block g from lo on that holds the cells cs; all that was there before w is kept; P holds. -/
structure Boxed (lo : Nat) (w wx : World) (t : TypeId) (cs : List Value) (P : World → Prop) (s : Value) : Prop where
  ptr : ∃ g, s = .pointer (some ⟨g, 0, none⟩) ∧ lo ≤ g ∧ Blk wx g t cs
  kept : Below w.heap.size w wx
  live : P wx
/-- A writer of one block. -/
theorem only_set {g : Nat} {w w' : World} (h : Only (fun b => b = g) w w') (i : Nat) (u : Value) : Only (fun b => b = g) w (w'.setCell ⟨g, i, none⟩ u) := h.setCell (p := ⟨g, i, none⟩) rfl u
end Go.Proofs.YtkimlajfhepfgaaGreat

namespace Go.Proofs.YtkimlajfhepfgaaGreat
open Go.RowKit

theorem own_empty_at {w : World} {g : Nat} (t s : Nat) (h : w.heap.size = g) : (w.alloc (.cells #[] t)).ownsRow g t s (.slice (some ⟨g, 0, none⟩) 0 0) 0 [] := h ▸ own_empty w t s
theorem own_not {w : World} {base e s n c g : Nat} {A : Option Addr} {cs : List Value} (h : w.ownsRow base e s (.slice A n c) n cs) (hg : g < base) : ¬ OwnB A g := fun hb => by
  have := (h.lt g (ownB_iff.2 hb)).1
  omega
theorem own_only {w w' : World} {base t s n c : Nat} {A : Option Addr} {cs : List Value} {T : Nat → Prop} (h : w.ownsRow base t s (.slice A n c) n cs) (ho : Only T w w') (hS : ∀ b, OwnB A b → ¬ T b) : w'.ownsRow base t s (.slice A n c) n cs := by
  rcases own_open h with ⟨rfl, rfl, rfl, rfl⟩ | ⟨g, cur, rfl, h1, h2, h3, h4, h5, h6⟩
  · exact World.ownsRow_nil _ _ _ _
  · exact own_shut h1 (h2.only ho (hS g rfl)) h3 h4 h5 h6
theorem own_top {w : World} {base t s n c b : Nat} {A : Option Addr} {cs : List Value} (h : w.ownsRow base t s (.slice A n c) n cs) (hb : OwnB A b) : base ≤ b ∧ b < w.heap.size := h.lt b (ownB_iff.2 hb)
theorem cell_only {S : Nat → Prop} {w w' : World} {b o : Nat} (h : Only S w w') (hS : ¬ S b) (hb : b < w.heap.size) : w'.cell? ⟨b, o, none⟩ = w.cell? ⟨b, o, none⟩ := World.cell?_of_block (h.block b hb hS)
/-- A list of integers in memory of the call's own. -/
def GivesL (w : World) (R : List Int) (e : Ending) (w' : World) : Prop :=
  ∃ A c, e = .returned (.slice A R.length c) ∧ w'.ownsRow w.heap.size 3 1 (.slice A R.length c) R.length (ints R) ∧ Below w.heap.size w w'

theorem run_append_zero {P : Program} {w : World} (base : Nat) (t ty e : TypeId) (i : TypeInfo) (size : Nat) (ht : P.underlying t = some (.slice e)) (hi : P.info? e = some i)
    (v : Value) (n : Nat) (xs : List Value) (hown : w.ownsRow base e size v n xs) (B : Option Addr) (d : Nat) :
    (Builtin.append_ #[t, t] ty #[v, .slice B 0 d]).run P w = .ok v w := by
  rcases hown.2 with ⟨rfl, rfl⟩ | ⟨g, cap, cur, rfl, _, _, hnc, _⟩
  · cases B <;> simp [Builtin.append_, run_underlying ht, sizeOf, typeInfo, hi, Builtin.lenOf, Builtin.firstCells, loadCells, loadCellsFrom]
  · cases B <;> simp [Builtin.append_, run_underlying ht, sizeOf, typeInfo, hi, Builtin.lenOf, Builtin.firstCells, hnc, storeCells, loadCells, loadCellsFrom]
/-- append(x, ys...): x a slice of the call's own, ys whatever is seen, nil and empty too. -/
theorem wp_cat {P : Program} {w : World} {o : Oper} {a : Act} {K : Act → World → Prop} {Q : Exit → Act → World → Prop} (sx xx : Operand) (t : TypeId)
    (ho : o.op = .call { callee := .builtin .append, args := #[sx, xx], argTypes := #[t, t] })
    {base : Nat} {e : TypeId} {z : Value} {s bytes : Nat} (ht : P.underlying t = some (.slice e)) (hi : (P.info? e).map (fun i => (i.zero, i.size, i.bytes)) = some (some z, s, bytes)) (hzs : z.cells.size = s) (hsz : 0 < s)
    {A : Option Addr} {n c : Nat} {xs : List Value} (hs : a.eval sx = .slice A n c) (hown : w.ownsRow base e s (.slice A n c) n xs)
    {lo m d : Nat} {B : Option Addr} {ys : List Value} (hx : a.eval xx = .slice B m d) (hB : Sees w lo s B m ys) (h1 : ys.all Value.oneCell' = true)
    (hn : n ≤ 1000000000) (hm : m ≤ 1000000000) (hby : bytes ≤ 1000) (hbase : base ≤ w.heap.size)
    (h : ∀ (A' : Option Addr) (c' : Nat) (w' : World), w'.ownsRow base e s (.slice A' (n + m) c') (n + m) (xs ++ ys) → Only (OwnB A) w w' → Below base w w' → (∀ b, OwnB A' b → OwnB A b ∨ w.heap.size ≤ b) → K (a.put o.dst (.slice A' (n + m) c')) w') : Oper.wp P o a w K Q := by
  obtain ⟨i0, hi, hz0, hz1, hz2⟩ := info_parts hi
  rcases Nat.eq_zero_or_pos m with rfl | hm0
  · have hys : ys = [] := List.eq_nil_of_length_eq_zero (by rw [hB.len]; simp)
    subst hys
    have h2 := h A c w (by simpa using hown) (Only.refl _ _) (Below.refl _ _) (fun b hb => .inl hb)
    have hrun := run_append_zero (P := P) (w := w) base t o.type e i0 s ht hi _ n xs hown B d
    unfold Oper.wp
    rw [Nat.add_zero] at h2
    simp [execOp, ho, resolve, invoke, builtin, hs, hx, hrun, Result.andThen]
    exact h2
  · obtain ⟨b, off, rfl, _, _, hl⟩ := hB.at' hm0
    refine wp_append_lies w sx xx t ho base e i0 z s bytes ht hi hz0 hz1 hz2 hzs hsz _ n xs hs hown ⟨b, off, none⟩ m d ys hx hB.len (fun j u hu => ?_) (List.all_eq_true.1 h1) hm0 (by simp only [maxLen]; omega) ?_ hbase _ rfl (fun g cap w' h2 h3 h4 _ => h _ _ w' h2 ?_ ?_ ?_)
    · have hadd : (⟨b, off, none⟩ : Addr).add j = ⟨b, off + j, none⟩ := by unfold Addr.add; split <;> simp_all
      rw [hadd]; exact hl j u hu
    · exact Nat.le_trans (Nat.mul_le_mul (show n + m ≤ 2000000000 by omega) hby) (by decide)
    · exact ⟨h3.os, h3.tape, h3.output, h3.size, fun k hk hS => h3.block k hk (fun e => hS (ownB_iff.1 e.symm))⟩
    · exact (Below.refl base w).grown h3 hbase (fun k hk => (hown.lt k hk).1)
    · intro b' hb'
      have hb'' : g = b' := by simpa [OwnB, Value.ownBlock] using hb'
      subst hb''
      rcases h4 with h4 | h4
      · exact .inl (ownB_iff.1 h4)
      · exact .inr (by omega)
theorem wpList_cat {P : Program} {w : World} {ops : Array Oper} {rest : List Oper} {o : Oper} {a : Act} {Q : Exit → Act → World → Prop} (hgd : o.guard = none) (sx xx : Operand) (t : TypeId)
    (ho : o.op = .call { callee := .builtin .append, args := #[sx, xx], argTypes := #[t, t] })
    {base : Nat} {e : TypeId} {z : Value} {s bytes : Nat} (ht : P.underlying t = some (.slice e)) (hi : (P.info? e).map (fun i => (i.zero, i.size, i.bytes)) = some (some z, s, bytes)) (hzs : z.cells.size = s) (hsz : 0 < s)
    {A : Option Addr} {n c : Nat} {xs : List Value} (hs : a.eval sx = .slice A n c) (hown : w.ownsRow base e s (.slice A n c) n xs)
    {lo m d : Nat} {B : Option Addr} {ys : List Value} (hx : a.eval xx = .slice B m d) (hB : Sees w lo s B m ys) (h1 : ys.all Value.oneCell' = true)
    (hn : n ≤ 1000000000) (hm : m ≤ 1000000000) (hby : bytes ≤ 1000) (hbase : base ≤ w.heap.size)
    (h : ∀ (A' : Option Addr) (c' : Nat) (w' : World), w'.ownsRow base e s (.slice A' (n + m) c') (n + m) (xs ++ ys) → Only (OwnB A) w w' → Below base w w' → (∀ b, OwnB A' b → OwnB A b ∨ w.heap.size ≤ b) → wpList P ops Q rest (a.put o.dst (.slice A' (n + m) c')) w') : wpList P ops Q (o :: rest) a w :=
  wpList_plain hgd fun _ hK => wp_cat sx xx t ho ht hi hzs hsz hs hown hx hB h1 hn hm hby hbase fun A' c' w' h2 h3 h4 h5 => hK _ _ (h A' c' w' h2 h3 h4 h5)
/-- The same at a step of a region that draws its order. -/
theorem step_cat {P : Program} {w : World} {ops : Array Oper} {o : Oper} {a : Act} {K : Act → World → Prop} {Q : Exit → Act → World → Prop} {E : Prop} (hgd : o.guard = none) (sx xx : Operand) (t : TypeId)
    (ho : o.op = .call { callee := .builtin .append, args := #[sx, xx], argTypes := #[t, t] })
    {base : Nat} {e : TypeId} {z : Value} {s bytes : Nat} (ht : P.underlying t = some (.slice e)) (hi : (P.info? e).map (fun i => (i.zero, i.size, i.bytes)) = some (some z, s, bytes)) (hzs : z.cells.size = s) (hsz : 0 < s)
    {A : Option Addr} {n c : Nat} {xs : List Value} (hs : a.eval sx = .slice A n c) (hown : w.ownsRow base e s (.slice A n c) n xs)
    {lo m d : Nat} {B : Option Addr} {ys : List Value} (hx : a.eval xx = .slice B m d) (hB : Sees w lo s B m ys) (h1 : ys.all Value.oneCell' = true)
    (hn : n ≤ 1000000000) (hm : m ≤ 1000000000) (hby : bytes ≤ 1000) (hbase : base ≤ w.heap.size)
    (h : ∀ (A' : Option Addr) (c' : Nat) (w' : World), w'.ownsRow base e s (.slice A' (n + m) c') (n + m) (xs ++ ys) → Only (OwnB A) w w' → Below base w w' → (∀ b, OwnB A' b → OwnB A b ∨ w.heap.size ≤ b) → K (a.put o.dst (.slice A' (n + m) c')) w') : if Region.wanted o (yielded ops a.tmps) = true then Oper.wp P o a w K Q else E := by
  have hw : Region.wanted o (yielded ops a.tmps) = true := by simp [Region.wanted, hgd]
  rw [if_pos hw]
  exact wp_cat sx xx t ho ht hi hzs hsz hs hown hx hB h1 hn hm hby hbase h

end Go.Proofs.YtkimlajfhepfgaaGreat

namespace Go.Proofs.YtkimlajfhepfgaaGreat
open Go.RowKit

/-- The code's bytes: seen, in a block that is older than block g. -/
def CodeAt (w : World) (g : Nat) (A : Option Addr) (m : Nat) : Prop :=
  0 < m → ∃ b off, A = some ⟨b, off, none⟩ ∧ b < g ∧ ∀ j, j < m → ∃ u : Int, w.cell? ⟨b, off + j, none⟩ = some (.int .u8 u) ∧ 0 ≤ u ∧ u ≤ 255
theorem CodeAt.only {w w' : World} {g m : Nat} {A : Option Addr} (h : CodeAt w g A m) (hg : g < w.heap.size) {S : Nat → Prop} (ho : Only S w w') (hS : ∀ b, S b → g ≤ b) : CodeAt w' g A m := fun hm => by
  obtain ⟨b, off, h1, h2, h4⟩ := h hm
  refine ⟨b, off, h1, h2, fun j hj => ?_⟩
  obtain ⟨u, h5, h6⟩ := h4 j hj
  exact ⟨u, (cell_only ho (fun hb => by have := hS b hb; omega) (by omega)).trans h5, h6⟩
/-- Block g is a cursor that has been drawn from at most n times. -/
structure Cur (w : World) (g n : Nat) : Prop where
  ex : ∃ (A : Option Addr) (m c p : Nat) (s : Int), Blk w g 59 [.slice A m c, .int .i64 (p : Int), .int .u64 s] ∧ p ≤ n ∧ m ≤ 1000000 ∧ CodeAt w g A m
theorem Cur.more {w : World} {g n n' : Nat} (h : Cur w g n) (hn : n ≤ n') : Cur w g n' := by
  obtain ⟨A, m, c, p, s, h1, h2, h3⟩ := h.ex
  exact ⟨A, m, c, p, s, h1, by omega, h3⟩
theorem Cur.lt {w : World} {g n : Nat} (h : Cur w g n) : g < w.heap.size := by
  obtain ⟨A, m, c, p, s, h1, _⟩ := h.ex
  exact h1.lt
theorem Cur.next {w w' : World} {g n : Nat} (h : Cur w g n) (hb : Below w.heap.size w w') : Cur w' g n := by
  obtain ⟨A, m, c, p, s, h1, h2, h3, h4⟩ := h.ex
  exact ⟨A, m, c, p, s, h1.next hb, h2, h3, CodeAt.only h4 h1.lt (S := fun _ => False) (.of_below hb) (fun _ h => h.elim)⟩
/-- A number from 0 to hi, drawn. -/
def Drawn (w : World) (g n hi : Nat) (e : Ending) (w' : World) : Prop := ∃ r : Nat, e = .returned (.int .i64 (r : Int)) ∧ r ≤ hi ∧ Cur w' g n ∧ Only (fun b => b = g) w w'

theorem cur_step {w : World} {g n m c p : Nat} {A : Option Addr} {s : Int} (hB : Blk w g 59 [.slice A m c, .int .i64 (p : Int), .int .u64 s]) (hC : CodeAt w g A m) (hp : p ≤ n) (hm : m ≤ 1000000) (q q' : Nat) (s' : Int) :
    Cur ((((w.drewN q).setCell ⟨g, 1, none⟩ (.int .i64 ((p : Int) + 1))).setCell ⟨g, 2, none⟩ (.int .u64 s')).drewN q') g (n + 1) ∧ Only (fun b => b = g) w ((((w.drewN q).setCell ⟨g, 1, none⟩ (.int .i64 ((p : Int) + 1))).setCell ⟨g, 2, none⟩ (.int .u64 s')).drewN q') := by
  have ho : Only (fun b => b = g) w ((((w.drewN q).setCell ⟨g, 1, none⟩ (.int .i64 ((p : Int) + 1))).setCell ⟨g, 2, none⟩ (.int .u64 s')).drewN q') :=
    (only_set (only_set ((Only.refl _ _).quiet (Quiet.mk w q)) 1 _) 2 _).quiet (Quiet.mk _ q')
  refine ⟨⟨A, m, c, p + 1, s', ?_, by omega, hm, CodeAt.only hC hB.lt ho (fun b (hb : b = g) => by omega)⟩, ho⟩
  exact ((hB.drewN q).set_ 1 (.int .i64 ((p : Int) + 1))).set_ 2 (.int .u64 s')
theorem draw_byte (x : Int) : ∃ r : Nat, wrap64 (bits .and .u64 (IntKind.u64.wrap x / 1099511627776) 255) = (r : Int) ∧ r ≤ 255 := by
  have h0 : IntKind.u64.wrap x = x % 18446744073709551616 := by simp [IntKind.wrap, IntKind.bits, IntKind.signed]
  have h1 : 0 ≤ x % 18446744073709551616 := by omega
  have h2 : x % 18446744073709551616 < 18446744073709551616 := by omega
  rw [h0]
  generalize x % 18446744073709551616 = y at *
  have h3 : 0 ≤ y / 1099511627776 := by omega
  have h4 : y / 1099511627776 < 18446744073709551616 := by omega
  rw [u64_and _ _ h3 h4 (by decide) (by decide)]
  have h5 : (y / 1099511627776).toNat &&& (255 : Int).toNat ≤ 255 := Nat.and_le_right
  refine ⟨_, ?_, h5⟩
  generalize (y / 1099511627776).toNat &&& (255 : Int).toNat = r at *
  unfold wrap64
  omega

set_option maxRecDepth 100000 in
set_option maxHeartbeats 1000000 in
theorem next_any (g n : Nat) (w : World) (h : Cur w g n) (hn : n ≤ 1000000) :
    Calls Tryz.prog 94 #[.pointer (some ⟨g, 0, none⟩)] w (Drawn w g (n + 1) 255) := by
  obtain ⟨A, m, c, p, s, hB, hp, hm, hC⟩ := h.ex
  by_cases hlt : p < m
  · obtain ⟨b, off, rfl, hbg, hcell⟩ := hC (by omega)
    have hne : b ≠ g := by omega
    have hb : b < w.heap.size := by have := hB.lt; omega
    obtain ⟨u, hu, u0, u1⟩ := hcell p hlt
    have c0 := hB.cell
    have z0 := hB.frozen
    have hz : ¬ ((p : Int) < 0) := by omega
    have hle : (p : Int) + 1 ≤ (m : Int) := by omega
    have HC := Lib.hid hC
    clear hcell hC
    go_enter Tryz.func94, Tryz.ntmps94
    go_wp2_with fail
    go_quiet (fail)
    go_wp2_with fail
    go_quiet (fail)
    go_wp2_with fail
    go_quiet (fail)
    go_wp2_with fail
    go_ret
    exact ⟨u.toNat, ret_int (by omega), by omega, cur_step hB HC.out hp hm _ _ _⟩
  · have c0 := hB.cell
    have z0 := hB.frozen
    have hle : ¬ (p : Int) + 1 ≤ (m : Int) := by omega
    have hlt' : ¬ (p : Int) < (m : Int) := by omega
    have HC := Lib.hid hC
    clear hC hlt
    go_enter Tryz.func94, Tryz.ntmps94
    go_wp2_with fail
    go_quiet (fail)
    go_wp2_with fail
    go_quiet (fail)
    go_wp2_with fail
    go_ret
    obtain ⟨r, hr, hr'⟩ := draw_byte (IntKind.u64.wrap (IntKind.u64.wrap (s * 6364136223846793005)) + 938938)
    exact ⟨r, ret_int hr, hr', cur_step hB HC.out hp hm _ _ _⟩

set_option maxHeartbeats 1000000 in
/-- pick: a number below n (0 if n is at most 1). -/
theorem pick_any (k : Int) (g n : Nat) (w : World) (h : Cur w g n) (hn : n ≤ 999000) (h0 : 1 ≤ k) (h1 : k ≤ 1000000000) :
    Calls Tryz.prog 47 #[.pointer (some ⟨g, 0, none⟩), .int .i64 k] w (Drawn w g (n + 2) (k.toNat - 1)) := by
  by_cases hk : k ≤ 1
  · go_enter Tryz.func47, Tryz.ntmps47
    go_wp2_with fail
    go_ret
    exact ⟨0, rfl, Nat.zero_le _, h.more (by omega), Only.refl _ _⟩
  · go_enter Tryz.func47, Tryz.ntmps47
    go_wp2_with fail
    refine (next_any g n w h (by omega)).mono ?_
    rintro e w1 ⟨r, rfl, hr, c1, o1⟩
    have e1 : (r : Int) % k < k := Int.emod_lt_of_pos _ (by omega)
    have e0 : 0 ≤ (r : Int) % k := Int.emod_nonneg _ (by omega)
    by_cases hk2 : 200 < k
    · go_wp2_with fail
      refine (next_any g (n + 1) w1 c1 (by omega)).mono ?_
      rintro e w2 ⟨r2, rfl, hr2, c2, o2⟩
      have f1 : ((r : Int) * 256 + (r2 : Int)) % k < k := Int.emod_lt_of_pos _ (by omega)
      have f0 : 0 ≤ ((r : Int) * 256 + (r2 : Int)) % k := Int.emod_nonneg _ (by omega)
      go_wp2_with fail
      go_ret
      exact ⟨(((r : Int) * 256 + (r2 : Int)) % k).toNat, ret_int (by omega), by omega, c2, o1.trans o2⟩
    · go_wp2_with fail
      go_ret
      exact ⟨((r : Int) % k).toNat, ret_int (by omega), by omega, c1.more (by omega), o1⟩

end Go.Proofs.YtkimlajfhepfgaaGreat

namespace Go.Proofs.YtkimlajfhepfgaaGreat
open Go.RowKit

/-- a small letter -/
def lowB (c : UInt8) : Bool := decide (97 ≤ c.toNat) && decide (c.toNat ≤ 122)
def digitS (k : Nat) : ByteArray := ⟨#[UInt8.ofNat (48 + k % 10)]⟩
def markGo : Nat → Nat → ByteArray → ByteArray
  | 0, _, out => out
  | fuel + 1, k, out => if k = 0 then out else markGo fuel (k / 10) (digitS k ++ out)
/-- the law's mark of a string -/
def markT (k : Int) : ByteArray := if k ≤ 0 then ⟨#[109, 48]⟩ else ⟨#[109]⟩ ++ markGo 20 k.toNat ⟨#[]⟩
end Go.Proofs.YtkimlajfhepfgaaGreat

namespace Go.Proofs.YtkimlajfhepfgaaGreat
open Go.RowKit

def DrawnB (w : World) (g n : Nat) (e : Ending) (w' : World) : Prop := ∃ b : Bool, e = .returned (.bool b) ∧ Cur w' g n ∧ Only (fun b => b = g) w w'
def DrawnI (w : World) (g n : Nat) (P : Int → Prop) (e : Ending) (w' : World) : Prop := ∃ s, e = .returned (.int .i64 s) ∧ P s ∧ Cur w' g n ∧ Only (fun b => b = g) w w'

theorem one_any (k : Int) (g n : Nat) (w : World) (h : Cur w g n) (hn : n ≤ 999000) (h0 : 1 ≤ k) (h1 : k ≤ 1000000000) :
    Calls Tryz.prog 48 #[.pointer (some ⟨g, 0, none⟩), .int .i64 k] w (DrawnB w g (n + 2)) := by
  go_enter Tryz.func48, Tryz.ntmps48
  go_wp2_with fail
  refine (pick_any k g n w h hn h0 h1).mono ?_
  rintro e w1 ⟨r, rfl, hr, c1, o1⟩
  go_wp2_with fail
  go_ret
  exact ⟨_, rfl, c1, o1⟩

theorem among_any (g n b m : Nat) (t : TypeId) (L : List Int) (w : World) (hB : Blk w b t (ints L)) (hne : b ≠ g) (h : Cur w g n) (hn : n ≤ 999000) (hL : L.length = m) (h0 : 1 ≤ m) (h1 : m ≤ 1000) :
    Calls Tryz.prog 51 #[.pointer (some ⟨g, 0, none⟩), .slice (some ⟨b, 0, none⟩) m m] w (DrawnI w g (n + 2) (· ∈ L)) := by
  have HL := Lib.hid hL
  clear hL
  go_enter Tryz.func51, Tryz.ntmps51
  go_wp2_with fail
  refine (pick_any m g n w h hn (by omega) (by omega)).mono ?_
  rintro e w1 ⟨r, rfl, hr, c1, o1⟩
  have hr1 : r < m := by simp at hr; omega
  have hr2 : (r : Int) < (m : Int) := by omega
  have hr3 : r < L.length := by rw [HL.out]; exact hr1
  have hc : w1.cell? ⟨b, r, none⟩ = some (.int .i64 L[r]) := by
    rw [(hB.only o1 hne).cell r]
    exact ints_get L r hr3
  clear hr
  go_wp2_with fail
  go_ret
  exact ⟨_, rfl, List.getElem_mem hr3, c1, o1⟩

end Go.Proofs.YtkimlajfhepfgaaGreat

namespace Go.Proofs.YtkimlajfhepfgaaGreat
open Go.RowKit

theorem only_new {S : Nat → Prop} {a w : World} (h : Only S a w) {p : Addr} (hp : a.heap.size ≤ p.block) (u : Value) : Only S a (w.setCell p u) :=
  ⟨h.os, h.tape, h.output, by simpa [World.setCell] using h.size, fun k hk hS => (Below.heap_setCell _ _ _ _ (fun e => by omega)).trans (h.block k hk hS)⟩
/-- A new block. -/
theorem only_alloc {S : Nat → Prop} {a w : World} (h : Only S a w) (o : Obj) : Only S a (w.alloc o) := h.then_ ((Below.refl _ _).alloc (Nat.le_refl _) o)
theorem Cur.keep {w w' : World} {g n : Nat} {S : Nat → Prop} (h : Cur w g n) (ho : Only S w w') (hg : ¬ S g) (hS : ∀ b, S b → g ≤ b) : Cur w' g n := by
  obtain ⟨A, m, c, p, s, h1, h2, h3, h4⟩ := h.ex
  exact ⟨A, m, c, p, s, h1.only ho hg, h2, h3, CodeAt.only h4 h1.lt ho hS⟩
/-- A code: bytes that are seen. -/
def CodeIn (w : World) (A : Option Addr) (m : Nat) : Prop :=
  0 < m → ∃ b off, A = some ⟨b, off, none⟩ ∧ b < w.heap.size ∧ ∀ j, j < m → ∃ u : Int, w.cell? ⟨b, off + j, none⟩ = some (.int .u8 u) ∧ 0 ≤ u ∧ u ≤ 255
/-- A new cursor, some blocks behind the code. -/
theorem cur_new {w w' : World} {A : Option Addr} {m c g : Nat} (h : CodeIn w A m) (hm : m ≤ 1000000) (hb : Below w.heap.size w w') (hg : w.heap.size ≤ g) (hB : Blk w' g 59 [.slice A m c, .int .i64 0, .int .u64 0]) : Cur w' g 0 :=
  ⟨⟨A, m, c, 0, 0, hB, Nat.le_refl _, hm, fun h0 => by
    obtain ⟨b, off, h1, h2, h3⟩ := h h0
    refine ⟨b, off, h1, by omega, fun j hj => ?_⟩
    obtain ⟨u, h4, h5⟩ := h3 j hj
    exact ⟨u, (hb.cell (p := ⟨b, off + j, none⟩) h2).trans h4, h5⟩⟩⟩
theorem CodeIn.next {w w' : World} {A : Option Addr} {m : Nat} (h : CodeIn w A m) (hb : Below w.heap.size w w') : CodeIn w' A m := fun h0 => by
  obtain ⟨b, off, h1, h2, h3⟩ := h h0
  refine ⟨b, off, h1, Nat.lt_of_lt_of_le h2 hb.size, fun j hj => ?_⟩
  obtain ⟨u, h4, h5⟩ := h3 j hj
  exact ⟨u, (hb.cell (p := ⟨b, off + j, none⟩) h2).trans h4, h5⟩
/-- among over a piece of a list -/
theorem among_cut (g n b m c : Nat) (t : TypeId) (L : List Int) (w : World) (hB : Blk w b t (ints L)) (hne : b ≠ g) (h : Cur w g n) (hn : n ≤ 999000) (hL : m ≤ L.length) (h0 : 1 ≤ m) (h1 : m ≤ 1000) :
    Calls Tryz.prog 51 #[.pointer (some ⟨g, 0, none⟩), .slice (some ⟨b, 0, none⟩) m c] w (DrawnI w g (n + 2) (· ∈ L)) := by
  have HL := Lib.hid hL
  clear hL
  go_enter Tryz.func51, Tryz.ntmps51
  go_wp2_with fail
  refine (pick_any m g n w h hn (by omega) (by omega)).mono ?_
  rintro e w1 ⟨r, rfl, hr, c1, o1⟩
  have hr1 : r < m := by simp at hr; omega
  have hr2 : (r : Int) < (m : Int) := by omega
  have hr3 : r < L.length := Nat.lt_of_lt_of_le hr1 HL.out
  have hc : w1.cell? ⟨b, r, none⟩ = some (.int .i64 L[r]) := by
    rw [(hB.only o1 hne).cell r]
    exact ints_get L r hr3
  clear hr
  go_wp2_with fail
  go_ret
  exact ⟨_, rfl, List.getElem_mem hr3, c1, o1⟩

end Go.Proofs.YtkimlajfhepfgaaGreat

namespace Go.Proofs.YtkimlajfhepfgaaGreat
open Go.RowKit

/-- A list of integers that is drawn, in memory of the call's own. -/
structure Drw (w wr : World) (g n : Nat) (A : Option Addr) (k c : Nat) (xs : List Int) : Prop where
  own : wr.ownsRow w.heap.size 3 1 (.slice A k c) k (ints xs)
  cur : Cur wr g n
  only : Only (fun b => b = g) w wr
section
variable {w wr wv w4 : World} {g n n' : Nat} {A A2 : Option Addr} {k c c2 : Nat} {xs : List Int} {v : Int}
theorem Drw.more (h : Drw w wr g n A k c xs) (hn : n ≤ n') : Drw w wr g n' A k c xs := { h with cur := h.cur.more hn }
theorem Drw.below (h : Drw w wr g n A k c xs) (hb : Below wr.heap.size wr wv) : Drw w wv g n A k c xs := ⟨own_below h.own hb, h.cur.next hb, h.only.then_ hb⟩
theorem Drw.drawn (h : Drw w wr g n A k c xs) (hg : g < w.heap.size) (hc : Cur wv g n') (ho : Only (fun b => b = g) wr wv) : Drw w wv g n' A k c xs :=
  ⟨own_only h.own ho (fun b hb (e : b = g) => by have := (own_top h.own hb).1; omega), hc, h.only.trans ho⟩
theorem Drw.push (h : Drw w wr g n A k c xs) (hg : g < w.heap.size) (o4 : w4.ownsRow w.heap.size 3 1 (.slice A2 (k + 1) c2) (k + 1) (ints xs ++ [.int .i64 v])) (h4 : Only (OwnB A) wr w4) : Drw w w4 g n A2 (k + 1) c2 (xs ++ [v]) := by
  have ht : ∀ b, OwnB A b → w.heap.size ≤ b := fun b hb => (own_top h.own hb).1
  have o1 := h.only
  exact ⟨by rw [show ints (xs ++ [v]) = ints xs ++ [.int .i64 v] by simp [ints]]; exact o4, h.cur.keep h4 (fun hb => by have := ht _ hb; omega) (fun b hb => by have := ht _ hb; omega),
    ⟨h4.os.trans o1.os, h4.tape.trans o1.tape, h4.output.trans o1.output, Nat.le_trans o1.size h4.size, fun i hi hS => (h4.block i (Nat.lt_of_lt_of_le hi o1.size) (fun hb => by have := ht _ hb; omega)).trans (o1.block i hi hS)⟩⟩
end
/-- Integers, drawn: at most m of them. -/
def DrawnInts (w : World) (g n m : Nat) (e : Ending) (w' : World) : Prop := ∃ (A : Option Addr) (k c : Nat) (xs : List Int), e = .returned (.slice A k c) ∧ Drw w w' g n A k c xs ∧ k ≤ m

set_option maxRecDepth 100000 in
set_option maxHeartbeats 4000000 in
theorem codes12_any (g n : Nat) (w : World) (h : Cur w g n) (hn : n ≤ 800000) :
    Calls Tryz.prog 52 #[.pointer (some ⟨g, 0, none⟩)] w (DrawnInts w g (n + 100) 14) := by
  have hg := h.lt
  have U0 : Below w.heap.size w (w.alloc (.cells #[] 3)) := (Below.refl _ _).alloc (Nat.le_refl _) _
  have D0 : Drw w (w.alloc (.cells #[] 3)) g n (some ⟨w.heap.size, 0, none⟩) 0 0 [] := ⟨own_empty w 3 1, h.next U0, .of_below U0⟩
  go_enter Tryz.func52, Tryz.ntmps52
  go_wp2_with fail
  refine (pick_any 7 g n _ D0.cur (by omega) (by decide) (by decide)).mono ?_
  rintro e w1 ⟨r, rfl, hr, c1, o1⟩
  have hr6 : r ≤ 6 := hr
  have D1 := D0.drawn hg c1 o1
  clear U0 D0 c1 o1 hr h
  go_wp2_with fail
  go_loopw [3, 4] (fun v i wr => ∃ (j k c : Nat) (A : Option Addr) (xs : List Int), i = .int .i64 (j : Int) ∧ j + k ≤ 6 ∧ v = .slice A k c ∧ Drw w wr g (n + 2 + 4 * k) A k c xs) (fun _ i _ => (intOf i).toNat)
  case atStart => exact ⟨r, 0, _, _, [], rfl, by omega, rfl, D1.more (by omega)⟩
  case round =>
    obtain ⟨j, k, c, A, xs, rfl, hjk, rfl, D⟩ := hrel
    clear D1
    by_cases hpos : 0 < j
    · obtain ⟨j, rfl⟩ : ∃ i, j = i + 1 := ⟨j - 1, by omega⟩
      have UA : Below wr.heap.size wr (wr.alloc (.cells #[.int .i64 31, .int .i64 32, .int .i64 34, .int .i64 41, .int .i64 45, .int .i64 77, .int .i64 99, .int .i64 31] 3)) := (Below.refl _ _).alloc (Nat.le_refl _) _
      have BL : Blk (wr.alloc (.cells #[.int .i64 31, .int .i64 32, .int .i64 34, .int .i64 41, .int .i64 45, .int .i64 77, .int .i64 99, .int .i64 31] 3)) wr.heap.size 3 (ints [31, 32, 34, 41, 45, 77, 99, 31]) := Blk.at_ rfl
      have hw := D.only.size
      have D2 := D.below UA
      go_wp2_with fail
      refine (among_any g _ wr.heap.size 8 3 [31, 32, 34, 41, 45, 77, 99, 31] _ BL (by omega) D2.cur (by omega) rfl (by decide) (by decide)).mono ?_
      rintro e w2 ⟨x, rfl, -, c2, o2⟩
      have D3 := D2.drawn hg c2 o2
      have UB : Below w2.heap.size w2 (w2.alloc (.cells #[.int .i64 x] 3)) := (Below.refl _ _).alloc (Nat.le_refl _) _
      have BX : Blk (w2.alloc (.cells #[.int .i64 x] 3)) w2.heap.size 3 [.int .i64 x] := Blk.at_ rfl
      have D4 := D3.below UB
      have hz4 := D4.only.size
      clear UA BL D D2 c2 o2 D3 UB
      go_wp2_with (at_builtin; go_loud (refine wpList_cat rfl _ _ _ rfl Tryz.underlying24 info_int rfl (by decide) rfl D4.own rfl (m := 1) (BX.sees (s := 1) (Nat.zero_le _) rfl) rfl (by omega) (by omega) (by decide) (by omega) ?_); intro A5 c5 w5 o5 h5 b5 q5)
      have D5 := D4.push hg o5 h5
      go_roundw
      case rel => exact ⟨j, k + 1, c5, A5, _, by go_num, by omega, rfl, D5.more (by omega)⟩
      case measure => simp [intOf]
    · obtain rfl : j = 0 := by omega
      go_wp2_with fail
      refine (pick_any 32 g _ _ D.cur (by omega) (by decide) (by decide)).mono ?_
      rintro e w2 ⟨r2, rfl, -, c2, o2⟩
      have D2 := D.drawn hg c2 o2
      clear D c2 o2 hpos
      by_cases h0 : r2 = 0
      · subst h0
        have hw := D2.only.size
        have UA : Below w2.heap.size w2 (w2.alloc (.cells #[.int .i64 30, .int .i64 100] 3)) := (Below.refl _ _).alloc (Nat.le_refl _) _
        have BL : Blk (w2.alloc (.cells #[.int .i64 30, .int .i64 100] 3)) w2.heap.size 3 (ints [30, 100]) := Blk.at_ rfl
        have D3 := D2.below UA
        go_wp2_with fail
        refine (among_any g _ w2.heap.size 2 3 [30, 100] _ BL (by omega) D3.cur (by omega) rfl (by decide) (by decide)).mono ?_
        rintro e w3 ⟨x, rfl, -, c3, o3⟩
        have D4 := D3.drawn hg c3 o3
        have UB : Below w3.heap.size w3 (w3.alloc (.cells #[.int .i64 x] 3)) := (Below.refl _ _).alloc (Nat.le_refl _) _
        have BX : Blk (w3.alloc (.cells #[.int .i64 x] 3)) w3.heap.size 3 [.int .i64 x] := Blk.at_ rfl
        have D5 := D4.below UB
        have hz4 := D5.only.size
        clear UA BL D2 D3 c3 o3 D4 UB
        go_wp2_with (at_builtin; go_loud (refine wpList_cat rfl _ _ _ rfl Tryz.underlying24 info_int rfl (by decide) rfl D5.own rfl (m := 1) (BX.sees (s := 1) (Nat.zero_le _) rfl) rfl (by omega) (by omega) (by decide) (by omega) ?_); intro A5 c5 w5 o5 h5 b5 q5)
        have D6 := (D5.push hg o5 h5).more (n' := n + 100) (by omega)
        go_ret
        exact ⟨A5, k + 1, c5, _, rfl, D6, by omega⟩
      have e0 : ((r2 : Int) == 0) = false := beq_eq_false_iff_ne.2 (by omega)
      have e0n : (r2 == 0) = false := beq_eq_false_iff_ne.2 h0
      by_cases h1 : r2 = 1
      · subst h1
        go_wp2_with fail
        go_loopw [3] (fun v wr => ∃ (k c : Nat) (A : Option Addr) (xs : List Int), v = .slice A k c ∧ k ≤ 13 ∧ Drw w wr g (n + 40 + 2 * k) A k c xs) (fun v _ => 14 - (match v with | .slice _ k _ => k | _ => 0))
        case atStart => exact ⟨k, c, A, xs, rfl, by omega, D2.more (by omega)⟩
        case round =>
          obtain ⟨k, c, A, xs, rfl, hk, D⟩ := hrel
          clear D2
          go_wp2_with fail
          refine (pick_any 2 g _ _ D.cur (by omega) (by decide) (by decide)).mono ?_
          rintro e w3 ⟨q, rfl, hq, c3, o3⟩
          have hq1 : q ≤ 1 := hq
          have D3 := D.drawn hg c3 o3
          clear D c3 o3 hq
          by_cases hlt : (k : Int) < 12 + (q : Int)
          · have hw := D3.only.size
            have UB : Below w3.heap.size w3 (w3.alloc (.cells #[.int .i64 31] 3)) := (Below.refl _ _).alloc (Nat.le_refl _) _
            have BX : Blk (w3.alloc (.cells #[.int .i64 31] 3)) w3.heap.size 3 [.int .i64 31] := Blk.at_ rfl
            have D5 := D3.below UB
            have hz4 := D5.only.size
            clear D3 UB
            go_wp2_with (at_builtin; go_loud (refine wpList_cat rfl _ _ _ rfl Tryz.underlying24 info_int rfl (by decide) rfl D5.own rfl (m := 1) (BX.sees (s := 1) (Nat.zero_le _) rfl) rfl (by omega) (by omega) (by decide) (by omega) ?_); intro A5 c5 w5 o5 h5 b5 q5)
            have D6 := D5.push hg o5 h5
            go_roundw
            case rel => exact ⟨k + 1, c5, A5, _, rfl, by omega, D6.more (by omega)⟩
            case measure => simp; omega
          · have D6 := D3.more (n' := n + 100) (by omega)
            go_wp2_with fail
            go_ret
            exact ⟨A, k, c, xs, rfl, D6, by omega⟩
      have e1 : ((r2 : Int) == 1) = false := beq_eq_false_iff_ne.2 (by omega)
      have e1n : (r2 == 1) = false := beq_eq_false_iff_ne.2 h1
      have D6 := D2.more (n' := n + 100) (by omega)
      go_wp2_with fail
      go_ret
      exact ⟨A, k, c, xs, rfl, D6, by omega⟩

end Go.Proofs.YtkimlajfhepfgaaGreat

namespace Go.Proofs.YtkimlajfhepfgaaGreat
open Go.RowKit

/-- An element, and the header of its slice. -/
structure Hd (α : Type) where
  x : α
  A : Option Addr
  n : Nat
  c : Nat
/-- How an element lies: its cells (s of them), its slice's cells (is of them an element). -/
structure Sh (α : Type) where
  enc : Hd α → List Value
  s : Nat
  is : Nat
  inner : α → List Value
  pos : 0 < s
  len : ∀ r, (enc r).length = s
section
variable {α : Type} {sh : Sh α} {w w' : World} {lo s n c t ti : Nat} {A : Option Addr} {xs : List α} {S T : Nat → Prop}
def SeesN (sh : Sh α) (w : World) (lo : Nat) (A : Option Addr) (n : Nat) (xs : List α) : Prop :=
  ∃ rs : List (Hd α), rs.map Hd.x = xs ∧ Sees w lo sh.s A n (rs.flatMap sh.enc) ∧ ∀ r ∈ rs, Sees w lo sh.is r.A r.n (sh.inner r.x)
theorem SeesN.next (h : SeesN sh w lo A n xs) (hb : Below w.heap.size w w') : SeesN sh w' lo A n xs := by
  obtain ⟨rs, h1, h2, h3⟩ := h
  exact ⟨rs, h1, h2.next hb, fun r hr => (h3 r hr).next hb⟩
theorem SeesN.below {C : Nat} (h : SeesN sh w lo A n xs) (hb : Below C w w') (hC : w.heap.size ≤ C) : SeesN sh w' lo A n xs := by
  obtain ⟨rs, h1, h2, h3⟩ := h
  exact ⟨rs, h1, h2.below hb hC, fun r hr => (h3 r hr).below hb hC⟩
theorem SeesN.quiet (h : SeesN sh w lo A n xs) (hq : Quiet w w') : SeesN sh w' lo A n xs := h.next (hq.below _)
theorem SeesN.count (h : SeesN sh w lo A n xs) : xs.length = n := by
  obtain ⟨rs, rfl, h2, _⟩ := h
  rw [List.length_map]
  exact h2.count sh.pos sh.len
/-- Slices of elements that a call owns: no two of them in one block, all of them in S. -/
structure Inners (sh : Sh α) (w : World) (S : Nat → Prop) (ti : TypeId) (rs : List (Hd α)) : Prop where
  each : ∀ r ∈ rs, Mine w S ti sh.is r.A r.n r.c (sh.inner r.x)
  pair : rs.Pairwise fun r r' => ∀ b, OwnB r.A b → ¬ OwnB r'.A b
theorem Inners.nil (S : Nat → Prop) : Inners sh w S ti [] := ⟨by simp, List.Pairwise.nil⟩
theorem Inners.next {rs : List (Hd α)} (h : Inners sh w S ti rs) (hb : Below w.heap.size w w') : Inners sh w' S ti rs := ⟨fun r hr => (h.each r hr).next hb, h.pair⟩
theorem Inners.only {rs : List (Hd α)} (h : Inners sh w S ti rs) (ho : Only T w w') (hS : ∀ b, S b → T b → False) : Inners sh w' S ti rs := ⟨fun r hr => (h.each r hr).only ho hS, h.pair⟩
theorem Inners.wide {rs : List (Hd α)} (h : Inners sh w S ti rs) (hS : ∀ b, S b → T b) : Inners sh w T ti rs := ⟨fun r hr => (h.each r hr).wide hS, h.pair⟩
theorem Inners.snoc {rs : List (Hd α)} (h : Inners sh w S ti rs) {x : α} {A : Option Addr} {n c : Nat} (hm : Mine w T ti sh.is A n c (sh.inner x)) (hST : ∀ b, S b → T b → False) : Inners sh w (fun b => S b ∨ T b) ti (rs ++ [⟨x, A, n, c⟩]) := by
  refine ⟨fun r hr => ?_, ?_⟩
  · rcases List.mem_append.1 hr with hr | hr
    · exact (h.each r hr).wide fun b hb => .inl hb
    · obtain rfl := List.mem_singleton.1 hr
      exact hm.wide fun b hb => .inr hb
  · rw [List.pairwise_append]
    refine ⟨h.pair, List.pairwise_singleton _ _, fun r hr r' hr' b hb hb' => ?_⟩
    obtain rfl := List.mem_singleton.1 hr'
    exact hST b ((h.each r hr).top b hb) (hm.top b hb')
/-- A slice of such elements in memory of a call's own. -/
structure MineR (sh : Sh α) (w : World) (S : Nat → Prop) (t ti : TypeId) (A : Option Addr) (n c : Nat) (rs : List (Hd α)) : Prop where
  outer : Mine w S t sh.s A n c (rs.flatMap sh.enc)
  inners : Inners sh w S ti rs
  apart : ∀ r ∈ rs, ∀ b, OwnB r.A b → ¬ OwnB A b
def MineN (sh : Sh α) (w : World) (S : Nat → Prop) (t ti : TypeId) (A : Option Addr) (n c : Nat) (xs : List α) : Prop :=
  ∃ rs : List (Hd α), rs.map Hd.x = xs ∧ MineR sh w S t ti A n c rs
theorem MineN.next (h : MineN sh w S t ti A n c xs) (hb : Below w.heap.size w w') : MineN sh w' S t ti A n c xs := by
  obtain ⟨rs, h1, h2⟩ := h
  exact ⟨rs, h1, h2.outer.next hb, h2.inners.next hb, h2.apart⟩
theorem MineN.only (h : MineN sh w S t ti A n c xs) (ho : Only T w w') (hS : ∀ b, S b → T b → False) : MineN sh w' S t ti A n c xs := by
  obtain ⟨rs, h1, h2⟩ := h
  exact ⟨rs, h1, h2.outer.only ho hS, h2.inners.only ho hS, h2.apart⟩
theorem MineN.wide (h : MineN sh w S t ti A n c xs) (hS : ∀ b, S b → T b) : MineN sh w T t ti A n c xs := by
  obtain ⟨rs, h1, h2⟩ := h
  exact ⟨rs, h1, h2.outer.wide hS, h2.inners.wide hS, h2.apart⟩
theorem MineN.sees (h : MineN sh w S t ti A n c xs) : SeesN sh w 0 A n xs := by
  obtain ⟨rs, h1, h2⟩ := h
  exact ⟨rs, h1, h2.outer.sees, fun r hr => (h2.inners.each r hr).sees⟩
theorem MineN.nil (w : World) (S : Nat → Prop) (t ti : TypeId) : MineN sh w S t ti none 0 0 [] :=
  ⟨[], rfl, ⟨World.ownsRow_nil _ _ _ _, fun b hb => by simp [OwnB, Value.ownBlock] at hb⟩, Inners.nil _, by simp⟩
theorem MineN.count (h : MineN sh w S t ti A n c xs) : xs.length = n := h.sees.count
end

/-- The marks of a list: each element's, from where the one before it ended. -/
def marksN {α : Type} (f : Int → α → α) (wt : α → Nat) : Int → List α → List α
  | _, [] => []
  | k, x :: l => f k x :: marksN f wt (k + wt x) l
section
variable {α : Type} {sh : Sh α} {w w' : World} {lo s n c t ti : Nat} {A : Option Addr} {xs : List α} {S T : Nat → Prop} {rs : List (Hd α)}
theorem heads_get (rs : List (Hd α)) (k j : Nat) (hk : k < rs.length) (hj : j < sh.s) : (rs.flatMap sh.enc)[k * sh.s + j]? = (sh.enc rs[k])[j]? :=
  flatMap_get rs (fun x _ => sh.len x) k j hk hj
theorem heads_len (rs : List (Hd α)) : (rs.flatMap sh.enc).length = rs.length * sh.s := flatMap_len rs (fun x _ => sh.len x)
/-- One element's cells have turned. -/
theorem heads_set {cs cs' : List Value} {k : Nat} (hk : k < rs.length) (r : Hd α) (h : cs.take (rs.length * sh.s) = rs.flatMap sh.enc)
    (hin : ∀ j, j < sh.s → cs'[k * sh.s + j]? = (sh.enc r)[j]?) (hout : ∀ j, ¬ (k * sh.s ≤ j ∧ j < k * sh.s + sh.s) → cs'[j]? = cs[j]?) : cs'.take (rs.length * sh.s) = (rs.set k r).flatMap sh.enc := by
  have hpos := sh.pos
  refine List.ext_getElem? fun j => ?_
  rw [List.getElem?_take]
  by_cases hj : j < rs.length * sh.s
  · rw [if_pos hj]
    have hq : j / sh.s < rs.length := Nat.div_lt_of_lt_mul (by rw [Nat.mul_comm]; exact hj)
    have hr : j % sh.s < sh.s := Nat.mod_lt _ hpos
    have hjj : j / sh.s * sh.s + j % sh.s = j := by rw [Nat.mul_comm]; exact Nat.div_add_mod j sh.s
    have e2 := heads_get (sh := sh) (rs.set k r) (j / sh.s) (j % sh.s) (by rw [List.length_set]; exact hq) hr
    rw [hjj] at e2
    rw [e2]
    by_cases hjk : j / sh.s = k
    · have e3 := hin (j % sh.s) hr
      rw [← hjk, hjj] at e3
      rw [e3]
      subst hjk
      simp
    · have hne : ¬ (k * sh.s ≤ j ∧ j < k * sh.s + sh.s) := by
        rintro ⟨h1, h2⟩
        apply hjk
        rw [Nat.div_eq_of_lt_le h1 (by rw [Nat.succ_mul]; exact h2)]
      have e4 := heads_get (sh := sh) rs (j / sh.s) (j % sh.s) hq hr
      rw [hjj, ← h, List.getElem?_take, if_pos hj] at e4
      rw [hout j hne, e4]
      congr 2
      rw [List.getElem_set_ne (fun e => hjk e.symm)]
  · rw [if_neg hj, List.getElem?_eq_none (by rw [heads_len, List.length_set]; omega)]
theorem Inners.set (h : Inners sh w S ti rs) {k : Nat} (hk : k < rs.length) (y : α) (ho : Only (OwnB rs[k].A) w w') (hm : Mine w' (OwnB rs[k].A) ti sh.is rs[k].A rs[k].n rs[k].c (sh.inner y)) : Inners sh w' S ti (rs.set k ⟨y, rs[k].A, rs[k].n, rs[k].c⟩) := by
  have hp := List.pairwise_iff_getElem.1 h.pair
  refine ⟨fun r hr => ?_, List.pairwise_iff_getElem.2 fun i j hi hj hij b hb hb' => ?_⟩
  · obtain ⟨i, hi, rfl⟩ := List.getElem_of_mem hr
    rw [List.length_set] at hi
    rw [List.getElem_set]
    by_cases hik : k = i
    · simp only [if_pos hik]
      exact hm.wide fun b hb => (h.each rs[k] (List.getElem_mem hk)).top b hb
    · simp only [if_neg hik]
      refine ((h.each rs[i] (List.getElem_mem hi)).exact_.only ho fun b hb hb' => ?_).wide fun b hb => (h.each rs[i] (List.getElem_mem hi)).top b hb
      rcases Nat.lt_or_gt_of_ne hik with hl | hl
      · exact hp k i hk hi hl b hb' hb
      · exact hp i k hi hk hl b hb hb'
  · rw [List.length_set] at hi hj
    have hA : ∀ (i : Nat) (hi : i < rs.length) (hi' : i < (rs.set k ⟨y, rs[k].A, rs[k].n, rs[k].c⟩).length), (rs.set k ⟨y, rs[k].A, rs[k].n, rs[k].c⟩)[i].A = rs[i].A := by
      intro i hi hi'
      rw [List.getElem_set]
      by_cases hik : k = i
      · subst hik; simp
      · simp [hik]
    rw [hA i hi] at hb
    rw [hA j hj] at hb'
    exact hp i j hi hj hij b hb hb'
theorem Inners.onlyA (h : Inners sh w S ti rs) (ho : Only T w w') (hS : ∀ r ∈ rs, ∀ b, OwnB r.A b → T b → False) : Inners sh w' S ti rs :=
  ⟨fun r hr => ((h.each r hr).exact_.only ho (hS r hr)).wide fun b hb => (h.each r hr).top b hb, h.pair⟩
end

end Go.Proofs.YtkimlajfhepfgaaGreat

namespace Go.Proofs.YtkimlajfhepfgaaGreat
open Go.RowKit

structure Punch where
  code : Int
  time : Int
deriving DecidableEq
def Punch.enc (x : Punch) : List Value := [.int .i64 x.code, .int .i64 x.time]
theorem info_impl_Punch : (Tryz.prog.info? 109).map (fun i => (i.zero, i.size, i.bytes)) = some (some (.agg #[.int .i64 0, .int .i64 0]), 2, 16) := by kernel_rfl
structure DeskRow where
  number : Int
  missing : Int
  time : Int
deriving DecidableEq
def DeskRow.enc (x : DeskRow) : List Value := [.int .i64 x.number, .int .i64 x.missing, .int .i64 x.time]
theorem info_impl_DeskRow : (Tryz.prog.info? 41).map (fun i => (i.zero, i.size, i.bytes)) = some (some (.agg #[.int .i64 0, .int .i64 0, .int .i64 0]), 3, 24) := by kernel_rfl
end Go.Proofs.YtkimlajfhepfgaaGreat

namespace Go.Proofs.YtkimlajfhepfgaaGreat
open Go.RowKit

structure Card where
  number : Int
  start : Int
  finish : Int
  punches : List Punch
deriving DecidableEq
def cardSh : Sh Card := ⟨fun r => [(.int .i64 r.x.number), (.int .i64 r.x.start), (.int .i64 r.x.finish), (.slice r.A r.n r.c)], 4, 2, fun x => (x.punches.flatMap Punch.enc), by decide, fun _ => rfl⟩
def Card.cnt (x : Card) : Nat := x.punches.length
/-- how many marks it takes -/
def Card.wt (x : Card) : Nat := x.punches.length * 2 + 3
theorem info_impl_Card : (Tryz.prog.info? 31).map (fun i => (i.zero, i.size, i.bytes)) = some (some (.agg #[.int .i64 0, .int .i64 0, .int .i64 0, .slice none 0 0]), 4, 48) := by kernel_rfl
theorem SeesCard.elem {w : World} {lo n k : Nat} {A : Option Addr} {xs : List Card} (h : SeesN cardSh w lo A n xs) (hk : k < n) :
    ∃ (b off : Nat) (B : Option Addr) (m d : Nat), A = some ⟨b, off, none⟩ ∧ ∃ hkx : k < xs.length, w.cell? ⟨b, off + k * 4, none⟩ = some (.int .i64 xs[k].number) ∧ w.cell? ⟨b, off + k * 4 + 1, none⟩ = some (.int .i64 xs[k].start) ∧ w.cell? ⟨b, off + k * 4 + 2, none⟩ = some (.int .i64 xs[k].finish) ∧ w.cell? ⟨b, off + k * 4 + 3, none⟩ = some (.slice B m d) ∧ Sees w lo 2 B m (xs[k].punches.flatMap Punch.enc) := by
  obtain ⟨rs, rfl, h2, h3⟩ := h
  obtain ⟨b, off, rfl, hkx, c0, c1, c2, c3⟩ := Sees.elem4 (enc := cardSh.enc) h2 (fun _ => rfl) hk
  have hx : (rs.map Hd.x)[k]'(by simpa using hkx) = rs[k].x := by simp
  refine ⟨b, off, rs[k].A, rs[k].n, rs[k].c, rfl, by simpa using hkx, ?_, ?_, ?_, ?_, ?_⟩
  · rw [c0, hx]
  · rw [c1, hx]
  · rw [c2, hx]
  · rw [c3]
  · rw [hx]; exact h3 rs[k] (List.getElem_mem hkx)

end Go.Proofs.YtkimlajfhepfgaaGreat

namespace Go.Proofs.YtkimlajfhepfgaaGreat
/-- the distance of two cells -/
def gapI (w a b : Int) : Int := ((a % w - b % w).natAbs : Nat) + ((a / w - b / w).natAbs : Nat)
/-- the cells above, before, behind and below a cell -/
def besideL (w h c : Int) : List Int := (if w ≤ c then [c - w] else []) ++ (if 0 < c % w then [c - 1] else []) ++ (if c % w < w - 1 then [c + 1] else []) ++ (if c + w < w * h then [c + w] else [])
end Go.Proofs.YtkimlajfhepfgaaGreat

namespace Go.Proofs.YtkimlajfhepfgaaGreat
/-- the cells of numbers 0 .. N-1 -/
def cellsL (N : Nat) : List Int := (List.range N).map fun i : Nat => (i : Int)
theorem mem_cellsL {N : Nat} {c : Int} : c ∈ cellsL N ↔ 0 ≤ c ∧ c < N := by
  unfold cellsL
  rw [List.mem_map]
  constructor
  · rintro ⟨i, hi, rfl⟩
    have := List.mem_range.1 hi
    omega
  · rintro ⟨h1, h2⟩
    exact ⟨c.toNat, List.mem_range.2 (by omega), by omega⟩
/-- the cells within s steps of a -/
def ballB (N : Nat) (nx : Int → List Int) (a : Int) : Nat → Int → Bool
  | 0, c => decide (c = a)
  | s + 1, c => ballB N nx a s c || (cellsL N).any fun b => ballB N nx a s b && (nx b).contains c
def dAt (D : List Int) (c : Int) : Int := D.getD c.toNat 0
structure Bfs (N : Nat) (nx : Int → List Int) (a : Int) (D Q : List Int) : Prop where
  len : D.length = N
  qin : ∀ q ∈ Q, (0 ≤ q ∧ q < N) ∧ 0 ≤ dAt D q
  rng : ∀ c : Int, 0 ≤ c → c < N → -1 ≤ dAt D c
  a0 : dAt D a = 0
  sound : ∀ c : Int, 0 ≤ c → c < N → 0 ≤ dAt D c → ballB N nx a (dAt D c).toNat c = true
  sorted : Q.Pairwise fun x y => dAt D x ≤ dAt D y
  top : ∀ q ∈ Q, ∀ c : Int, 0 ≤ c → c < N → dAt D c ≤ dAt D q + 1
  closed : ∀ c : Int, 0 ≤ c → c < N → 0 ≤ dAt D c → c ∈ Q ∨ ∀ k ∈ nx c, 0 ≤ dAt D k ∧ dAt D k ≤ dAt D c + 1
def unmarked (D : List Int) : Nat := (D.filter fun x => decide (x < 0)).length
/-- within the round of q: the first j cells beside q are marked -/
structure BfsIn (N : Nat) (nx : Int → List Int) (a : Int) (q : Int) (j : Nat) (D Q : List Int) : Prop where
  inv : Bfs N nx a D (q :: Q)
  done : ∀ k ∈ (nx q).take j, 0 ≤ dAt D k ∧ dAt D k ≤ dAt D q + 1

theorem dAt_set_self {D : List Int} {c x : Int} (h0 : 0 ≤ c) (h : c < D.length) : dAt (D.set c.toNat x) c = x := by
  unfold dAt
  rw [List.getD_eq_getElem?_getD, List.getElem?_set_self (by omega)]; rfl
theorem dAt_set_ne {D : List Int} {c d x : Int} (hc : 0 ≤ c) (hd : 0 ≤ d) (h : d ≠ c) : dAt (D.set c.toNat x) d = dAt D d := by
  unfold dAt
  rw [List.getD_eq_getElem?_getD, List.getElem?_set_ne (by omega), List.getD_eq_getElem?_getD]
theorem unmarked_set : ∀ {D : List Int} {i : Nat} {x : Int}, (h : i < D.length) → D[i] < 0 → 0 ≤ x → unmarked (D.set i x) + 1 = unmarked D
  | y :: D, 0, x, _, hy, hx => by
    simp only [List.getElem_cons_zero] at hy
    simp only [unmarked, List.set_cons_zero, List.filter_cons]
    rw [if_neg (by simp; omega), if_pos (by simpa using hy)]
    simp
  | y :: D, i + 1, x, h, hy, hx => by
    have ih := unmarked_set (D := D) (i := i) (x := x) (by simpa using h) (by simpa using hy) hx
    unfold unmarked at ih ⊢
    simp only [List.set_cons_succ, List.filter_cons]
    split
    · simp only [List.length_cons]; omega
    · exact ih
theorem dAt_get {D : List Int} {c : Int} (h : c.toNat < D.length) : dAt D c = D[c.toNat] := by
  unfold dAt
  rw [List.getD_eq_getElem?_getD, List.getElem?_eq_getElem h]; rfl

/-- a cell that is marked already -/
theorem bfsIn_old {N : Nat} {nx : Int → List Int} {a q k : Int} {D Q : List Int} {j : Nat} (h : BfsIn N nx a q j D Q) (hj : j < (nx q).length) (hk : (nx q)[j] = k) (hr : 0 ≤ k ∧ k < N) (hD : 0 ≤ dAt D k) : BfsIn N nx a q (j + 1) D Q := by
  refine ⟨h.inv, fun x hx => ?_⟩
  rw [List.take_succ_eq_append_getElem hj, hk, List.mem_append] at hx
  rcases hx with hx | hx
  · exact h.done x hx
  · obtain rfl := List.mem_singleton.1 hx
    exact ⟨hD, h.inv.top q (by simp) x hr.1 hr.2⟩
/-- a cell that is not marked -/
theorem bfsIn_new {N : Nat} {nx : Int → List Int} {a q k : Int} {D Q : List Int} {j : Nat} (hnx : ∀ b, ∀ x ∈ nx b, 0 ≤ x ∧ x < N) (h : BfsIn N nx a q j D Q) (hj : j < (nx q).length) (hk : (nx q)[j] = k) (hD : dAt D k < 0) :
    BfsIn N nx a q (j + 1) (D.set k.toNat (dAt D q + 1)) (Q ++ [k]) ∧ unmarked (D.set k.toNat (dAt D q + 1)) + (Q ++ [k]).length = unmarked D + Q.length := by
  have i := h.inv
  have hkm : k ∈ nx q := by rw [← hk]; exact List.getElem_mem hj
  obtain ⟨k0, kN⟩ := hnx q k hkm
  obtain ⟨⟨q0, qN⟩, qD⟩ := i.qin q (by simp)
  have hl := i.len
  have hs : dAt (D.set k.toNat (dAt D q + 1)) k = dAt D q + 1 := dAt_set_self k0 (by omega)
  have hn : ∀ c : Int, 0 ≤ c → c ≠ k → dAt (D.set k.toNat (dAt D q + 1)) c = dAt D c := fun c hc hne => dAt_set_ne k0 hc hne
  have hqk : q ≠ k := by rintro rfl; omega
  have hmark : ∀ c : Int, 0 ≤ c → 0 ≤ dAt D c → dAt (D.set k.toNat (dAt D q + 1)) c = dAt D c := fun c hc hd => hn c hc (by rintro rfl; omega)
  have hqq := hn q q0 hqk
  have hsort := List.pairwise_cons.1 i.sorted
  have htop := i.top q (by simp)
  have hb : ballB N nx a ((dAt D q).toNat + 1) k = true := by
    have h1 := i.sound q q0 qN qD
    simp only [ballB, Bool.or_eq_true, List.any_eq_true, Bool.and_eq_true]
    exact .inr ⟨q, mem_cellsL.2 ⟨q0, qN⟩, h1, by simpa using hkm⟩
  have hQ : ∀ x ∈ q :: Q, 0 ≤ x ∧ x ≠ k := fun x hx => by
    obtain ⟨⟨h1, _⟩, h2⟩ := i.qin x hx
    exact ⟨h1, by rintro rfl; omega⟩
  refine ⟨⟨⟨by rw [List.length_set]; exact hl, fun x hx => ?_, fun c h1 h2 => ?_, ?_, fun c h1 h2 h3 => ?_, ?_, fun x hx c h1 h2 => ?_, fun c h1 h2 h3 => ?_⟩, fun x hx => ?_⟩, ?_⟩
  · rw [← List.cons_append, List.mem_append] at hx
    rcases hx with hx | hx
    · obtain ⟨h1, h2⟩ := hQ x hx
      rw [hn x h1 h2]; exact i.qin x hx
    · obtain rfl := List.mem_singleton.1 hx
      exact ⟨⟨k0, kN⟩, by omega⟩
  · by_cases e : c = k
    · subst e; omega
    · rw [hn c h1 e]; exact i.rng c h1 h2
  · have ha := i.a0
    by_cases e : a = k
    · subst e; omega
    · by_cases ha0 : 0 ≤ a
      · rw [hn a ha0 e]; exact ha
      · unfold dAt at ha ⊢
        by_cases e0 : k.toNat = a.toNat
        · have : k = 0 := by omega
          subst this
          have : dAt D 0 = 0 := by unfold dAt; rw [e0]; exact ha
          omega
        · rw [List.getD_eq_getElem?_getD, List.getElem?_set_ne e0, ← List.getD_eq_getElem?_getD]; exact ha
  · by_cases e : c = k
    · subst e
      rw [hs, show (dAt D q + 1).toNat = (dAt D q).toNat + 1 by omega]; exact hb
    · rw [hn c h1 e] at h3 ⊢; exact i.sound c h1 h2 h3
  · rw [← List.cons_append, List.pairwise_append]
    refine ⟨i.sorted.imp_of_mem fun {x y} hx hy hxy => ?_, List.pairwise_singleton _ _, fun x hx y hy => ?_⟩
    · rw [hn x (hQ x hx).1 (hQ x hx).2, hn y (hQ y hy).1 (hQ y hy).2]; exact hxy
    · obtain rfl := List.mem_singleton.1 hy
      rw [hn x (hQ x hx).1 (hQ x hx).2, hs]
      obtain ⟨⟨x0, xN⟩, _⟩ := i.qin x hx
      exact htop x x0 xN
  · have hc' : dAt (D.set k.toNat (dAt D q + 1)) c ≤ dAt D q + 1 := by
      by_cases e : c = k
      · subst e; omega
      · rw [hn c h1 e]; exact htop c h1 h2
    rw [← List.cons_append, List.mem_append] at hx
    rcases hx with hx | hx
    · rw [hn x (hQ x hx).1 (hQ x hx).2]
      rcases List.mem_cons.1 hx with rfl | hx
      · exact hc'
      · have := hsort.1 x hx; omega
    · obtain rfl := List.mem_singleton.1 hx
      omega
  · by_cases e : c = k
    · subst e; exact .inl (by simp)
    · rw [hn c h1 e] at h3
      rcases i.closed c h1 h2 h3 with h4 | h4
      · refine .inl ?_
        rw [← List.cons_append, List.mem_append]; exact .inl h4
      · refine .inr fun x hx => ?_
        obtain ⟨h5, h6⟩ := h4 x hx
        rw [hmark x (hnx c x hx).1 h5, hn c h1 e]; exact ⟨h5, h6⟩
  · rw [List.take_succ_eq_append_getElem hj, hk, List.mem_append] at hx
    rcases hx with hx | hx
    · obtain ⟨h5, h6⟩ := h.done x hx
      rw [hmark x (hnx q x (List.mem_of_mem_take hx)).1 h5, hqq]; exact ⟨h5, h6⟩
    · obtain rfl := List.mem_singleton.1 hx
      rw [hs, hqq]; omega
  · have h7 := unmarked_set (D := D) (i := k.toNat) (x := dAt D q + 1) (by omega) (by rw [← dAt_get (by omega)]; exact hD) (by omega)
    rw [List.length_append]; simp; omega
theorem ballB_mono {N : Nat} {nx : Int → List Int} {a c : Int} {s t : Nat} (h : ballB N nx a s c = true) (hst : s ≤ t) : ballB N nx a t c = true := by
  induction t with
  | zero => obtain rfl : s = 0 := by omega
            exact h
  | succ t ih =>
    by_cases e : s = t + 1
    · subst e; exact h
    · simp only [ballB, Bool.or_eq_true]
      exact .inl (ih (by omega))
/-- a number put to its place, once -/
def putI : List Int → Int → List Int
  | [], n => [n]
  | x :: l, n => if x < n then x :: putI l n else if x = n then x :: l else n :: x :: l
theorem putI_mem {n c : Int} : ∀ {l : List Int}, c ∈ putI l n ↔ c ∈ l ∨ c = n
  | [] => by simp [putI]
  | x :: l => by
    simp only [putI]
    split
    · rw [List.mem_cons, putI_mem (l := l), List.mem_cons, or_assoc]
    · split
      · rename_i h; subst h
        rw [List.mem_cons]
        constructor
        · intro h; exact .inl h
        · rintro (h | h)
          · exact h
          · exact .inl h
      · simp only [List.mem_cons]
        constructor
        · rintro (h | h | h)
          · exact .inr h
          · exact .inl (.inl h)
          · exact .inl (.inr h)
        · rintro ((h | h) | h)
          · exact .inr (.inl h)
          · exact .inr (.inr h)
          · exact .inl h
theorem putI_sorted {n : Int} : ∀ {l : List Int}, l.Pairwise (· < ·) → (putI l n).Pairwise (· < ·)
  | [], _ => List.pairwise_singleton _ _
  | x :: l, h => by
    have h1 := List.pairwise_cons.1 h
    simp only [putI]
    split
    · refine List.pairwise_cons.2 ⟨fun y hy => ?_, putI_sorted h1.2⟩
      rcases putI_mem.1 hy with hy | hy
      · exact h1.1 y hy
      · omega
    · split
      · exact h
      · refine List.pairwise_cons.2 ⟨fun y hy => ?_, h⟩
        rcases List.mem_cons.1 hy with hy | hy
        · omega
        · have := h1.1 y hy; omega
/-- the walk's form: the first place that is not before n -/
theorem putI_at {n : Int} : ∀ {l : List Int} {k : Nat}, k ≤ l.length → (∀ (j : Nat) (_ : j < l.length), j < k → l[j] < n) → (∀ (hk : k < l.length), n ≤ l[k]) →
    putI l n = if l[k]? = some n then l else l.take k ++ n :: l.drop k
  | [], k, hk, _, _ => by
    obtain rfl : k = 0 := by simpa using hk
    simp [putI]
  | x :: l, 0, _, _, h2 => by
    have h3 : n ≤ x := h2 (by simp)
    simp only [putI, if_neg (show ¬ x < n by omega), List.getElem?_cons_zero, Option.some.injEq, List.take_zero, List.nil_append, List.drop_zero]
  | x :: l, k + 1, hk, h1, h2 => by
    have h3 : x < n := h1 0 (by simp) (by omega)
    have ih := putI_at (n := n) (l := l) (k := k) (by simpa using hk) (fun j hj hjk => h1 (j + 1) (by simpa using hj) (by omega)) (fun hk => h2 (by simpa using hk))
    simp only [putI, if_pos h3, ih, List.getElem?_cons_succ, List.take_succ_cons, List.drop_succ_cons, List.cons_append]
    split <;> rfl
theorem putI_len {n : Int} : ∀ {l : List Int}, (putI l n).length ≤ l.length + 1
  | [] => by simp [putI]
  | x :: l => by
    have := putI_len (n := n) (l := l)
    simp only [putI]
    split
    · simpa using this
    · split <;> simp
/-- rising lists of the same members are the same -/
theorem rising_ext : ∀ {l m : List Int}, l.Pairwise (· < ·) → m.Pairwise (· < ·) → (∀ x, x ∈ l ↔ x ∈ m) → l = m
  | [], [], _, _, _ => rfl
  | [], y :: m, _, _, h => by have := (h y).2 (by simp); simp at this
  | x :: l, [], _, _, h => by have := (h x).1 (by simp); simp at this
  | x :: l, y :: m, hl, hm, h => by
    have h1 := List.pairwise_cons.1 hl
    have h2 := List.pairwise_cons.1 hm
    have hxy : x = y := by
      rcases List.mem_cons.1 ((h x).1 (by simp)) with e | e
      · exact e
      · rcases List.mem_cons.1 ((h y).2 (by simp)) with e' | e'
        · exact e'.symm
        · have := h1.1 y e'; have := h2.1 x e; omega
    subst hxy
    rw [rising_ext h1.2 h2.2 fun z => ?_]
    constructor
    · intro hz
      rcases List.mem_cons.1 ((h z).1 (by simp [hz])) with e | e
      · subst e; have := h1.1 z hz; omega
      · exact e
    · intro hz
      rcases List.mem_cons.1 ((h z).2 (by simp [hz])) with e | e
      · subst e; have := h2.1 z hz; omega
      · exact e
theorem filter_sub {α : Type} {p q : α → Bool} : ∀ {l : List α}, (∀ x ∈ l, p x = true → q x = true) → (l.filter p).length ≤ (l.filter q).length ∧ ((l.filter q).length ≤ (l.filter p).length → ∀ x ∈ l, p x = q x)
  | [], _ => by simp
  | x :: l, h => by
    obtain ⟨h1, h2⟩ := filter_sub (p := p) (q := q) (l := l) fun y hy => h y (by simp [hy])
    have hx := h x (by simp)
    cases hp : p x <;> cases hq : q x
    · simp only [List.filter_cons, hp, hq, Bool.false_eq_true, if_false]
      refine ⟨h1, fun h3 y hy => ?_⟩
      rcases List.mem_cons.1 hy with rfl | hy
      · rw [hp, hq]
      · exact h2 h3 y hy
    · simp only [List.filter_cons, hp, hq, Bool.false_eq_true, if_false, if_true, List.length_cons]
      exact ⟨by omega, fun h3 => absurd h3 (by omega)⟩
    · rw [hp, hq] at hx; exact absurd (hx rfl) (by decide)
    · simp only [List.filter_cons, hp, hq, if_true, List.length_cons]
      refine ⟨by omega, fun h3 y hy => ?_⟩
      rcases List.mem_cons.1 hy with rfl | hy
      · rw [hp, hq]
      · exact h2 (by omega) y hy
/-- the cells within s steps, rising -/
def fieldL (N : Nat) (nx : Int → List Int) (a : Int) (s : Nat) : List Int := (cellsL N).filter (ballB N nx a s)
/-- a field that does not grow in one step grows no more -/
theorem fieldL_stop {N : Nat} {nx : Int → List Int} {a : Int} {s : Nat} (h : (fieldL N nx a (s + 1)).length ≤ (fieldL N nx a s).length) {t : Nat} (ht : s ≤ t) : fieldL N nx a t = fieldL N nx a s := by
  have h1 : ∀ c ∈ cellsL N, ballB N nx a s c = ballB N nx a (s + 1) c := (filter_sub (p := ballB N nx a s) (q := ballB N nx a (s + 1)) fun x _ hx => ballB_mono hx (by omega)).2 h
  have h2 : ∀ u, ∀ c ∈ cellsL N, ballB N nx a (s + u) c = ballB N nx a s c := by
    intro u
    induction u with
    | zero => exact fun _ _ => rfl
    | succ u ih =>
      intro c hc
      have h3 := h1 c hc
      rw [h3, ← Nat.add_assoc]
      simp only [ballB]
      rw [ih c hc]
      congr 1
      rw [Bool.eq_iff_iff, List.any_eq_true, List.any_eq_true]
      constructor
      · rintro ⟨b, hb, h4⟩
        exact ⟨b, hb, by rwa [ih b hb] at h4⟩
      · rintro ⟨b, hb, h4⟩
        exact ⟨b, hb, by rwa [ih b hb]⟩
  unfold fieldL
  refine List.filter_congr fun c hc => ?_
  have := h2 (t - s) c hc
  rwa [show s + (t - s) = t by omega] at this

end Go.Proofs.YtkimlajfhepfgaaGreat

namespace Go.Proofs.YtkimlajfhepfgaaGreat
open Go.RowKit

theorem ints_all (xs : List Int) : (ints xs).all Value.oneCell' = true := List.all_eq_true.2 (ints_one xs)

theorem copyInts_any (A : Option Addr) (n c lo : Nat) (xs : List Int) (w : World) (hx : Sees w lo 1 A n (ints xs)) (hn : n ≤ 1048576) :
    Calls Tryz.prog 58 #[.slice A n c] w (GivesL w xs) := by
  have hl := hx.icount
  have K0 : Below w.heap.size w (w.alloc (.cells #[] 3)) := (Below.refl _ _).alloc (Nat.le_refl _) _
  have hown := own_empty w 3 1
  have hx1 := hx.next K0
  go_enter Tryz.func58, Tryz.ntmps58
  go_wp2_with (at_builtin; go_loud (refine wpList_cat rfl _ _ _ rfl Tryz.underlying24 info_int rfl (by decide) rfl hown rfl hx1 (ints_all _) (by omega) (by omega) (by decide) (by simp; try omega) ?_); intro A1 c1 w1 o1 h1 b1 q1)
  go_ret
  subst hl
  exact ⟨A1, c1, by simp, by simpa using o1, K0.trans b1⟩

theorem l1Own_any (A : Option Addr) (n c lo : Nat) (xs : List Int) (w : World) (hx : Sees w lo 1 A n (ints xs)) (hn : n ≤ 1048576) :
    Calls Tryz.prog 96 #[.slice A n c] w (GivesL w xs) := by
  have hl := hx.icount
  have K0 : Below w.heap.size w (w.alloc (.cells #[] 3)) := (Below.refl _ _).alloc (Nat.le_refl _) _
  have hown := own_empty w 3 1
  have hx1 := hx.next K0
  go_enter Tryz.func96, Tryz.ntmps96
  go_wp2_with (at_builtin; go_loud (refine wpList_cat rfl _ _ _ rfl Tryz.underlying24 info_int rfl (by decide) rfl hown rfl hx1 (ints_all _) (by omega) (by omega) (by decide) (by simp; try omega) ?_); intro A1 c1 w1 o1 h1 b1 q1)
  go_ret
  subst hl
  exact ⟨A1, c1, by simp, by simpa using o1, K0.trans b1⟩

end Go.Proofs.YtkimlajfhepfgaaGreat

namespace Go.Proofs.YtkimlajfhepfgaaGreat
open Go.RowKit

section
variable {α : Type} {sh : Sh α} {w w' : World} {S : Nat → Prop} {n c t ti g : Nat} {A : Option Addr} {rs : List (Hd α)} {xs : List α}
theorem MineR.count (h : MineR sh w S t ti A n c rs) : rs.length = n := h.outer.sees.count sh.pos sh.len
theorem MineR.next (h : MineR sh w S t ti A n c rs) (hb : Below w.heap.size w w') : MineR sh w' S t ti A n c rs := ⟨h.outer.next hb, h.inners.next hb, h.apart⟩
theorem MineR.wide {T : Nat → Prop} (h : MineR sh w S t ti A n c rs) (hS : ∀ b, S b → T b) : MineR sh w T t ti A n c rs := ⟨h.outer.wide hS, h.inners.wide hS, h.apart⟩
theorem MineR.only {T : Nat → Prop} (h : MineR sh w S t ti A n c rs) (ho : Only T w w') (hS : ∀ b, S b → T b → False) : MineR sh w' S t ti A n c rs := ⟨h.outer.only ho hS, h.inners.only ho hS, h.apart⟩
theorem MineR.made (h : MineR sh w S t ti A n c rs) : MineN sh w S t ti A n c (rs.map Hd.x) := ⟨rs, rfl, h⟩
theorem MineR.sees (h : MineR sh w S t ti A n c rs) : SeesN sh w 0 A n (rs.map Hd.x) := h.made.sees
/-- Its block is known whole. -/
theorem MineR.block (h : MineR sh w S t ti A n c rs) (hn : 0 < n) : ∃ (g : Nat) (cur : List Value), A = some ⟨g, 0, none⟩ ∧ S g ∧ Blk w g t cur ∧ cur.length = c * sh.s ∧ n * sh.s ≤ cur.length ∧ ∀ (k j : Nat) (hk : k < rs.length), j < sh.s → cur[k * sh.s + j]? = (sh.enc rs[k])[j]? := by
  have hl := h.count
  rcases own_open h.outer.own with ⟨_, h0, _, _⟩ | ⟨g, cur, rfl, _, hB, hcl, hnc, _, htk⟩
  · omega
  · refine ⟨g, cur, rfl, h.outer.top g rfl, hB, hcl, by rw [hcl]; exact Nat.mul_le_mul_right _ hnc, fun k j hk hj => ?_⟩
    have h1 := heads_get (sh := sh) rs k j hk hj
    have h2 : k * sh.s + j < n * sh.s := by
      have : (k + 1) * sh.s ≤ n * sh.s := Nat.mul_le_mul_right _ (by omega)
      rw [Nat.succ_mul] at this
      omega
    rw [← h1, ← htk, List.getElem?_take, if_pos h2]
/-- One element's cells have turned; its slice is as it was. -/
theorem MineR.turn {cur cs' : List Value} {k : Nat} (h : MineR sh w S t ti (some ⟨g, 0, none⟩) n c rs) (hB : Blk w g t cur) (hk : k < rs.length) (y : α) (hy : sh.inner y = sh.inner rs[k].x)
    (ho : Only (fun b => b = g) w w') (hB' : Blk w' g t cs') (hl : cs'.length = cur.length) (hin : ∀ j, j < sh.s → cs'[k * sh.s + j]? = (sh.enc ⟨y, rs[k].A, rs[k].n, rs[k].c⟩)[j]?) (hout : ∀ j, ¬ (k * sh.s ≤ j ∧ j < k * sh.s + sh.s) → cs'[j]? = cur[j]?) :
    MineR sh w' S t ti (some ⟨g, 0, none⟩) n c (rs.set k ⟨y, rs[k].A, rs[k].n, rs[k].c⟩) := by
  have hlen := h.count
  rcases own_open h.outer.own with ⟨h0, _⟩ | ⟨g', cur', e, _, hB2, hcl, hnc, hcm, htk⟩
  · cases h0
  · injection e with e
    injection e with e1 _ _
    subst e1
    have ec : cur' = cur := by
      have h3 := hB.symm.trans hB2
      simp only [Option.some.injEq, Obj.cells.injEq, and_true] at h3
      exact (List.toArray_inj h3).symm
    subst ec
    have hin' := h.inners.onlyA ho (fun r hr b h1 h2 => h.apart r hr b h1 (by simp [OwnB, Value.ownBlock]; exact h2.symm))
    refine ⟨⟨own_shut (Nat.zero_le _) hB' (hl.trans hcl) hnc hcm ?_, h.outer.top⟩, hin'.set hk y (Only.refl _ _) ?_, fun r hr b hb hb2 => ?_⟩
    · rw [← hlen] at htk ⊢
      exact heads_set hk _ htk hin hout
    · have := (hin'.each rs[k] (List.getElem_mem hk)).exact_
      rw [hy]; exact this
    · rcases List.mem_or_eq_of_mem_set hr with hr | rfl
      · exact h.apart r hr b hb hb2
      · exact h.apart rs[k] (List.getElem_mem hk) b hb hb2
end

end Go.Proofs.YtkimlajfhepfgaaGreat

namespace Go.Proofs.YtkimlajfhepfgaaGreat
open Go.RowKit

section
variable {α : Type} {sh : Sh α} {w w1 w2 w3 w' : World} {S : Nat → Prop} {n c t ti g : Nat} {A : Option Addr} {rs : List (Hd α)} {xs : List α}
/-- One element more: its slice in a block of its own, from g on; the outer slice grown. -/
theorem nest_snoc {B g g0 : Nat} {D : Nat → Prop} {A2 B1 : Option Addr} {m d : Nat} {x : α}
    (hin : Inners sh w1 (In B g) ti rs) (hap : ∀ r ∈ rs, ∀ b, OwnB r.A b → ¬ OwnB A b) (hg : ∀ b, OwnB A b → b < g)
    (ho : w1.ownsRow g0 ti sh.is (.slice B1 m d) m (sh.inner x)) (hD : ∀ b, D b → g ≤ b ∧ b < g0) (hg0 : g ≤ g0) (h2 : Only D w1 w2) (h3 : Only (OwnB A) w2 w3) (hat : ∀ b, OwnB A2 b → OwnB A b ∨ w2.heap.size ≤ b) (hB : B ≤ g) (hg1 : g ≤ w1.heap.size) :
    Inners sh w3 (In B w3.heap.size) ti (rs ++ [⟨x, B1, m, d⟩]) ∧ ∀ r ∈ rs ++ [(⟨x, B1, m, d⟩ : Hd α)], ∀ b, OwnB r.A b → ¬ OwnB A2 b := by
  have z2 := h2.size
  have z3 := h3.size
  have i3 := (hin.only h2 (fun b h4 h5 => by have := h4.2; have := hD b h5; omega)).onlyA h3 hap
  have m2 : Mine w3 (In g0 w1.heap.size) ti sh.is B1 m d (sh.inner x) := ((Mine.of ho).only h2 (fun b h4 h5 => by have := h4.1; have := hD b h5; omega)).only h3 (fun b h4 h5 => by have := h4.1; have := hg b h5; omega)
  refine ⟨(i3.snoc m2 (fun b h4 h5 => by have := h4.2; have := h5.1; omega)).wide fun b h4 => ?_, fun r hr b hb hb2 => ?_⟩
  · rcases h4 with h4 | h4
    · exact ⟨h4.1, by have := h4.2; omega⟩
    · exact ⟨by have := h4.1; omega, by have := h4.2; omega⟩
  · rcases List.mem_append.1 hr with hr | hr
    · have h5 := (hin.each r hr).top b hb
      rcases hat b hb2 with h6 | h6
      · exact hap r hr b hb h6
      · have := h5.2; omega
    · obtain rfl := List.mem_singleton.1 hr
      have h5 := own_top ho hb
      rcases hat b hb2 with h6 | h6
      · have := hg b h6; omega
      · omega
theorem set_flatMap {β γ : Type} (f : β → List γ) : ∀ (l : List β) (k : Nat) (y : β) (hk : k < l.length), f y = f l[k] → (l.set k y).flatMap f = l.flatMap f
  | [], _, _, hk, _ => absurd hk (by simp)
  | x :: l, 0, y, _, h => by simp only [List.set_cons_zero, List.flatMap_cons]; rw [h]; rfl
  | x :: l, k + 1, y, hk, h => by simp only [List.set_cons_succ, List.flatMap_cons]; rw [set_flatMap f l k y (by simpa using hk) (by simpa using h)]
/-- The cells of one element's slice have turned. -/
theorem MineR.within {k : Nat} (h : MineR sh w S t ti A n c rs) (hk : k < rs.length) (y : α) (he : sh.enc ⟨y, rs[k].A, rs[k].n, rs[k].c⟩ = sh.enc rs[k]) (ho : Only (OwnB rs[k].A) w w') (hm : Mine w' (OwnB rs[k].A) ti sh.is rs[k].A rs[k].n rs[k].c (sh.inner y)) :
    MineR sh w' S t ti A n c (rs.set k ⟨y, rs[k].A, rs[k].n, rs[k].c⟩) := by
  refine ⟨?_, h.inners.set hk y ho hm, fun r hr b hb hb2 => ?_⟩
  · rw [set_flatMap _ _ _ _ hk he]
    exact (h.outer.exact_.only ho (fun b h1 h2 => h.apart rs[k] (List.getElem_mem hk) b h2 h1)).wide fun b hb => h.outer.top b hb
  · rcases List.mem_or_eq_of_mem_set hr with hr | rfl
    · exact h.apart r hr b hb hb2
    · exact h.apart rs[k] (List.getElem_mem hk) b hb hb2
/-- One element's slice is exchanged for another one of the call's own, in a block of its own. -/
theorem MineR.swap {cur cs' : List Value} {k : Nat} {r : Hd α} {D : Nat → Prop} (h : MineR sh w S t ti (some ⟨g, 0, none⟩) n c rs) (hB : Blk w g t cur) (hk : k < rs.length)
    (ho : Only (fun b => b = g) w w') (hB' : Blk w' g t cs') (hl : cs'.length = cur.length) (hin : ∀ j, j < sh.s → cs'[k * sh.s + j]? = (sh.enc r)[j]?) (hout : ∀ j, ¬ (k * sh.s ≤ j ∧ j < k * sh.s + sh.s) → cs'[j]? = cur[j]?)
    (hr : Mine w' D ti sh.is r.A r.n r.c (sh.inner r.x)) (hD : ∀ b, D b → S b) (hDg : ¬ D g) (hDi : ∀ r' ∈ rs, ∀ b, OwnB r'.A b → ¬ D b) :
    MineR sh w' S t ti (some ⟨g, 0, none⟩) n c (rs.set k r) := by
  have hlen := h.count
  rcases own_open h.outer.own with ⟨h0, _⟩ | ⟨g', cur', e, _, hB2, hcl, hnc, hcm, htk⟩
  · cases h0
  · injection e with e
    injection e with e1 _ _
    subst e1
    have ec : cur' = cur := by
      have h3 := hB.symm.trans hB2
      simp only [Option.some.injEq, Obj.cells.injEq, and_true] at h3
      exact (List.toArray_inj h3).symm
    subst ec
    have hin' := h.inners.onlyA ho (fun r hr b h1 h2 => h.apart r hr b h1 (by simp [OwnB, Value.ownBlock]; exact h2.symm))
    have hp := List.pairwise_iff_getElem.1 h.inners.pair
    refine ⟨⟨own_shut (Nat.zero_le _) hB' (hl.trans hcl) hnc hcm ?_, h.outer.top⟩, ⟨fun r' hr' => ?_, List.pairwise_iff_getElem.2 fun i j hi hj hij b hb hb' => ?_⟩, fun r' hr' b hb hb2 => ?_⟩
    · rw [← hlen] at htk ⊢
      exact heads_set hk _ htk hin hout
    · rcases List.mem_or_eq_of_mem_set hr' with hr' | rfl
      · exact hin'.each r' hr'
      · exact hr.wide hD
    · rw [List.length_set] at hi hj
      rw [List.getElem_set] at hb hb'
      by_cases hki : k = i
      · subst hki
        rw [if_pos rfl] at hb
        rw [if_neg (by omega)] at hb'
        exact hDi rs[j] (List.getElem_mem hj) b hb' (hr.top b hb)
      · rw [if_neg hki] at hb
        by_cases hkj : k = j
        · subst hkj
          rw [if_pos rfl] at hb'
          exact hDi rs[i] (List.getElem_mem hi) b hb (hr.top b hb')
        · rw [if_neg hkj] at hb'
          exact hp i j hi hj hij b hb hb'
    · rcases List.mem_or_eq_of_mem_set hr' with hr' | rfl
      · exact h.apart r' hr' b hb hb2
      · simp only [OwnB, Value.ownBlock, Option.some.injEq] at hb2
        subst hb2
        exact hDg (hr.top _ hb)
end

end Go.Proofs.YtkimlajfhepfgaaGreat

namespace Go.Proofs.YtkimlajfhepfgaaGreat
open Go.RowKit

theorem punch_all (xs : List Punch) : (xs.flatMap Punch.enc).all Value.oneCell' = true := by
  rw [List.all_eq_true]
  intro v hv
  obtain ⟨x, _, h⟩ := List.mem_flatMap.1 hv
  simp only [Punch.enc, List.mem_cons, List.not_mem_nil, or_false] at h
  rcases h with rfl | rfl <;> rfl
/-- A card, its punches in memory of the call's own. -/
def GivesCard (w : World) (x : Card) (n : Nat) (e : Ending) (w' : World) : Prop :=
  ∃ B d, e = .returned (.agg #[.int .i64 x.number, .int .i64 x.start, .int .i64 x.finish, .slice B n d]) ∧ w'.ownsRow w.heap.size 109 2 (.slice B n d) n (x.punches.flatMap Punch.enc) ∧ Below w.heap.size w w'
/-- Cards in memory of the call's own. -/
def GivesCards (w : World) (xs : List Card) (e : Ending) (w' : World) : Prop :=
  ∃ A c, e = .returned (.slice A xs.length c) ∧ MineN cardSh w' (In w.heap.size w'.heap.size) 31 109 A xs.length c xs ∧ Below w.heap.size w w'

set_option maxRecDepth 100000 in
set_option maxHeartbeats 1000000 in
theorem newCard_any (A : Option Addr) (n c lo : Nat) (x : Card) (w : World) (hx : Sees w lo 2 A n (x.punches.flatMap Punch.enc)) (hn : n ≤ 1048576) :
    Calls Tryz.prog 72 #[.agg #[.int .i64 x.number, .int .i64 x.start, .int .i64 x.finish, .slice A n c]] w (GivesCard w x n) := by
  have K0 : Below w.heap.size w (((w.alloc (.cells #[.int .i64 x.number, .int .i64 x.start, .int .i64 x.finish, .slice A n c] 31)).alloc (.cells #[.int .i64 0, .int .i64 0, .int .i64 0, .slice none 0 0] 31)).alloc (.cells #[] 109)) := (((Below.refl w.heap.size w).alloc (Nat.le_refl _) _).alloc (by simp) _).alloc (by simp; omega) _
  have P0 : Blk (((w.alloc (.cells #[.int .i64 x.number, .int .i64 x.start, .int .i64 x.finish, .slice A n c] 31)).alloc (.cells #[.int .i64 0, .int .i64 0, .int .i64 0, .slice none 0 0] 31)).alloc (.cells #[] 109)) w.heap.size 31 [.int .i64 x.number, .int .i64 x.start, .int .i64 x.finish, .slice A n c] := ((Blk.at_ rfl).alloc _).alloc _
  have R0 : Blk (((w.alloc (.cells #[.int .i64 x.number, .int .i64 x.start, .int .i64 x.finish, .slice A n c] 31)).alloc (.cells #[.int .i64 0, .int .i64 0, .int .i64 0, .slice none 0 0] 31)).alloc (.cells #[] 109)) (w.heap.size + 1) 31 [.int .i64 0, .int .i64 0, .int .i64 0, .slice none 0 0] := (Blk.at_ (by simp)).alloc _
  have hown := own_empty_at (w := ((w.alloc (.cells #[.int .i64 x.number, .int .i64 x.start, .int .i64 x.finish, .slice A n c] 31)).alloc (.cells #[.int .i64 0, .int .i64 0, .int .i64 0, .slice none 0 0] 31))) (g := w.heap.size + 1 + 1) 109 2 (by simp)
  have hx0 := hx.next K0
  have z0 : (((w.alloc (.cells #[.int .i64 x.number, .int .i64 x.start, .int .i64 x.finish, .slice A n c] 31)).alloc (.cells #[.int .i64 0, .int .i64 0, .int .i64 0, .slice none 0 0] 31)).alloc (.cells #[] 109)).heap.size = w.heap.size + 1 + 1 + 1 := by simp
  have Z0 := Lib.hid z0
  clear z0
  go_enter Tryz.func72, Tryz.ntmps72
  go_wp2_with (at_builtin; go_loud (refine wpList_cat rfl _ _ _ rfl Tryz.underlying29 info_impl_Punch rfl (by decide) rfl hown rfl hx0 (punch_all _) (by omega) (by omega) (by decide) (by have := Z0.out; omega) ?_); intro A1 c1 w1 o1 h1 b1 q1; have P1 := P0.only h1 (own_not hown (by omega)); have R1 := R0.only h1 (own_not hown (by omega)); have pc := P1.cell; have pf := P1.frozen; have rc := R1.cell; have rf := R1.frozen)
  simp only [Nat.zero_add, List.nil_append] at o1 ⊢
  have K1 : Below w.heap.size w w1 := K0.trans (b1.mono (by omega))
  have RF := ((((R1.far (p := ⟨w.heap.size, 3, none⟩) (by simp) (.slice A1 n c1)).set_ 0 (.int .i64 x.number)).set_ 1 (.int .i64 x.start)).set_ 2 (.int .i64 x.finish)).set_ 3 (.slice A1 n c1)
  have E := (((((Only.refl (fun b => b = w.heap.size ∨ b = w.heap.size + 1) w1).setCell (p := ⟨w.heap.size, 3, none⟩) (.inl rfl) (.slice A1 n c1)).setCell (p := ⟨w.heap.size + 1, 0, none⟩) (.inr rfl) (.int .i64 x.number)).setCell (p := ⟨w.heap.size + 1, 1, none⟩) (.inr rfl) (.int .i64 x.start)).setCell (p := ⟨w.heap.size + 1, 2, none⟩) (.inr rfl) (.int .i64 x.finish)).setCell (p := ⟨w.heap.size + 1, 3, none⟩) (.inr rfl) (.slice A1 n c1)
  have oF := own_only o1 E (fun b hb h => by have := (own_top o1 hb).1; omega)
  have zF := E.size
  have z1 := K1.size
  refine bodyPost_ret (results_cell_row rfl _ _ (w.heap.size + 1) _ _ (0, 0) _ rfl RF Tryz.underlying31 rfl (by kernel_rfl)) rfl ⟨A1, c1, rfl, own_base oF (by omega), ?_⟩
  exact K1.trans (E.below (fun k hk => by rcases hk with hk | hk <;> omega) (by omega))

set_option maxRecDepth 100000 in
set_option maxHeartbeats 2000000 in
theorem l12Own_any (A : Option Addr) (n c lo : Nat) (x : Card) (w : World) (hx : Sees w lo 2 A n (x.punches.flatMap Punch.enc)) (hn : n ≤ 1048576) :
    Calls Tryz.prog 83 #[.agg #[.int .i64 x.number, .int .i64 x.start, .int .i64 x.finish, .slice A n c]] w (GivesCard w x n) := by
  have K0 : Below w.heap.size w (((w.alloc (.cells #[.int .i64 x.number, .int .i64 x.start, .int .i64 x.finish, .slice A n c] 31)).alloc (.cells #[.int .i64 0, .int .i64 0, .int .i64 0, .slice none 0 0] 31)).alloc (.cells #[] 109)).drew := bel_quiet ((((Below.refl w.heap.size w).alloc (Nat.le_refl _) _).alloc (by simp) _).alloc (by simp; omega) _) (Quiet.one _)
  have P0 : Blk (((w.alloc (.cells #[.int .i64 x.number, .int .i64 x.start, .int .i64 x.finish, .slice A n c] 31)).alloc (.cells #[.int .i64 0, .int .i64 0, .int .i64 0, .slice none 0 0] 31)).alloc (.cells #[] 109)).drew w.heap.size 31 [.int .i64 x.number, .int .i64 x.start, .int .i64 x.finish, .slice A n c] := (((Blk.at_ rfl).alloc _).alloc _ : Blk (((w.alloc (.cells #[.int .i64 x.number, .int .i64 x.start, .int .i64 x.finish, .slice A n c] 31)).alloc (.cells #[.int .i64 0, .int .i64 0, .int .i64 0, .slice none 0 0] 31)).alloc (.cells #[] 109)) w.heap.size 31 [.int .i64 x.number, .int .i64 x.start, .int .i64 x.finish, .slice A n c])
  have R0 : Blk (((w.alloc (.cells #[.int .i64 x.number, .int .i64 x.start, .int .i64 x.finish, .slice A n c] 31)).alloc (.cells #[.int .i64 0, .int .i64 0, .int .i64 0, .slice none 0 0] 31)).alloc (.cells #[] 109)).drew (w.heap.size + 1) 31 [.int .i64 0, .int .i64 0, .int .i64 0, .slice none 0 0] := ((Blk.at_ (by simp)).alloc _ : Blk (((w.alloc (.cells #[.int .i64 x.number, .int .i64 x.start, .int .i64 x.finish, .slice A n c] 31)).alloc (.cells #[.int .i64 0, .int .i64 0, .int .i64 0, .slice none 0 0] 31)).alloc (.cells #[] 109)) (w.heap.size + 1) 31 [.int .i64 0, .int .i64 0, .int .i64 0, .slice none 0 0])
  have hown := own_below (own_empty_at (w := ((w.alloc (.cells #[.int .i64 x.number, .int .i64 x.start, .int .i64 x.finish, .slice A n c] 31)).alloc (.cells #[.int .i64 0, .int .i64 0, .int .i64 0, .slice none 0 0] 31))) (g := w.heap.size + 1 + 1) 109 2 (by simp)) ((Quiet.one _).below _)
  have hx0 := hx.next K0
  have z0 : (((w.alloc (.cells #[.int .i64 x.number, .int .i64 x.start, .int .i64 x.finish, .slice A n c] 31)).alloc (.cells #[.int .i64 0, .int .i64 0, .int .i64 0, .slice none 0 0] 31)).alloc (.cells #[] 109)).drew.heap.size = w.heap.size + 1 + 1 + 1 := by show (((w.alloc (.cells #[.int .i64 x.number, .int .i64 x.start, .int .i64 x.finish, .slice A n c] 31)).alloc (.cells #[.int .i64 0, .int .i64 0, .int .i64 0, .slice none 0 0] 31)).alloc (.cells #[] 109)).heap.size = _; simp
  have Z0 := Lib.hid z0
  have pc0 := P0.cell
  clear z0
  go_enter Tryz.func83, Tryz.ntmps83
  go_wp2_with fail
  refine wp_region_held_drew (S := fun w' => w'.cell? ⟨w.heap.size, 0, none⟩ = some (.int .i64 x.number) ∧ w'.cell? ⟨w.heap.size, 1, none⟩ = some (.int .i64 x.start) ∧ w'.cell? ⟨w.heap.size, 2, none⟩ = some (.int .i64 x.finish) ∧ w'.cell? ⟨w.heap.size, 3, none⟩ = some (.slice A n c)) (by kernel_rfl) (by (try dsimp only); go_keep) (fun hH => ?_)
  refine wT (i := 0) (v := ?_) rfl (by kernel_rfl) (by kernel_rfl) (by kernel_rfl) (fun _ _ _ h => h) (Or.inl ⟨by rfl, ?_⟩) (by assumption) ?_
  rotate_left 1
  · (intro w hS; (try dsimp only at hS); go_simp; try with_reducible rfl)
  simp only [Act.put, pX]
  refine wT (i := 1) (v := ?_) rfl (by kernel_rfl) (by kernel_rfl) (by kernel_rfl) (fun _ _ _ h => h) (Or.inl ⟨by rfl, ?_⟩) (by assumption) ?_
  rotate_left 1
  · (intro w hS; (try dsimp only at hS); go_simp; try with_reducible rfl)
  simp only [Act.put, pX]
  refine wT (i := 2) (v := ?_) rfl (by kernel_rfl) (by kernel_rfl) (by kernel_rfl) (fun _ _ _ h => h) (Or.inl ⟨by rfl, ?_⟩) (by assumption) ?_
  rotate_left 1
  · (intro w hS; (try dsimp only at hS); go_simp; try with_reducible rfl)
  simp only [Act.put, pX]
  refine wT (i := 3) (v := ?_) rfl (by kernel_rfl) (by kernel_rfl) (by kernel_rfl) (fun _ _ _ h => h) (Or.inl ⟨by rfl, ?_⟩) (by assumption) ?_
  rotate_left 1
  · (intro w hS; (try dsimp only at hS); go_simp; try with_reducible rfl)
  simp only [Act.put, pX]
  refine wT (i := 4) (v := ?_) rfl (by kernel_rfl) (by kernel_rfl) (by kernel_rfl) (fun _ _ _ h => h) (Or.inl ⟨by rfl, ?_⟩) (by assumption) ?_
  rotate_left 1
  · (intro w hS; (try dsimp only at hS); go_simp; try with_reducible rfl)
  simp only [Act.put, pX]
  refine wT (i := 5) (v := ?_) rfl (by kernel_rfl) (by kernel_rfl) (by kernel_rfl) (fun _ _ _ h => h) (Or.inl ⟨by rfl, ?_⟩) (by assumption) ?_
  rotate_left 1
  · (intro w hS; (try dsimp only at hS); go_simp; try with_reducible rfl)
  simp only [Act.put, pX]
  refine wT (i := 7) (v := ?_) rfl (by kernel_rfl) (by kernel_rfl) (by kernel_rfl) (fun _ _ _ h => h) (Or.inl ⟨by rfl, ?_⟩) (by assumption) ?_
  rotate_left 1
  · (intro w hS; (try dsimp only at hS); go_simp; try with_reducible rfl)
  simp only [Act.put, pX]
  refine wT (i := 8) (v := ?_) rfl (by kernel_rfl) (by kernel_rfl) (by kernel_rfl) (fun _ _ _ h => h) (Or.inl ⟨by rfl, ?_⟩) (by assumption) ?_
  rotate_left 1
  · (intro w hS; (try dsimp only at hS); go_simp; try with_reducible rfl)
  simp only [Act.put, pX]
  refine wR (rs := [6]) (by kernel_rfl) (by simp) ?_
  refine aC rfl (fun K hK => ?_) aN
  go_simp
  refine hK.out _ _ (by (try dsimp only); go_keep) (fun hH => ?_)
  clear hK K
  try simp only [Act.put, pX]
  refine wR (rs := [9]) (by kernel_rfl) (by simp) ?_
  refine aC rfl (fun K hK => ?_) aN
  refine step_cat rfl _ _ _ (by rfl) Tryz.underlying29 info_impl_Punch rfl (by decide) (by rfl) hown (by rfl) (m := n) hx0 (punch_all _) (by omega) (by omega) (by decide) (by have := Z0.out; omega) ?_
  intro A1 c1 w1 o1 h1 b1 q1
  have P1 := P0.only h1 (own_not hown (by omega))
  have R1 := R0.only h1 (own_not hown (by omega))
  clear pc0
  have pc := P1.cell
  have rc := R1.cell
  have rf := R1.frozen
  simp only [Nat.zero_add, List.nil_append] at o1
  (try simp only [Nat.zero_add])
  refine hK.out _ _ (by (try dsimp only); go_keep) (fun hH => ?_)
  clear hK K
  try simp only [Act.put, pX]
  refine wT (i := 10) (v := ?_) rfl (by kernel_rfl) (by kernel_rfl) (by kernel_rfl) (fun _ _ _ h => h) (Or.inl ⟨by rfl, ?_⟩) (by assumption) ?_
  rotate_left 1
  · (intro w hS; (try dsimp only at hS); go_simp; try with_reducible rfl)
  simp only [Act.put, pX]
  refine wR (rs := [11]) (by kernel_rfl) (by simp) ?_
  refine aC rfl (fun K hK => ?_) aN
  go_simp
  refine hK.out _ _ (by (try dsimp only); go_keep) (fun hH => ?_)
  clear hK K
  try simp only [Act.put, pX]
  refine wD (by kernel_rfl) ?_ _
  go_wp2_with fail
  have K1 : Below w.heap.size w w1 := K0.trans (b1.mono (by omega))
  have RF := (((R1.set_ 0 (.int .i64 x.number)).set_ 1 (.int .i64 x.start)).set_ 2 (.int .i64 x.finish)).set_ 3 (.slice A1 n c1)
  have E := ((((Only.refl (fun b => b = w.heap.size + 1) w1).setCell (p := ⟨w.heap.size + 1, 0, none⟩) rfl (.int .i64 x.number)).setCell (p := ⟨w.heap.size + 1, 1, none⟩) rfl (.int .i64 x.start)).setCell (p := ⟨w.heap.size + 1, 2, none⟩) rfl (.int .i64 x.finish)).setCell (p := ⟨w.heap.size + 1, 3, none⟩) rfl (.slice A1 n c1)
  have oF := own_only o1 E (fun b hb h => by have := (own_top o1 hb).1; omega)
  have zF := E.size
  have z1 := K1.size
  refine bodyPost_ret (results_cell_row rfl _ _ (w.heap.size + 1) _ _ (0, 0) _ rfl RF Tryz.underlying31 rfl (by kernel_rfl)) rfl ⟨A1, c1, rfl, own_base oF (by omega), ?_⟩
  exact K1.trans (E.below (fun k hk => by omega) (by omega))

set_option maxRecDepth 100000 in
set_option maxHeartbeats 2000000 in
theorem newCards_any (A : Option Addr) (n c : Nat) (xs : List Card) (w : World) (hx : SeesN cardSh w 0 A n xs) (hn : n ≤ 1048576) (hi : ∀ x ∈ xs, x.cnt ≤ 1048576) :
    Calls Tryz.prog 95 #[.slice A n c] w (GivesCards w xs) := by
  have HL := Lib.hid hx.count
  have hl1 : xs.length ≤ n := by rw [HL.out]; exact Nat.le_refl _
  have hl2 : n ≤ xs.length := by rw [HL.out]; exact Nat.le_refl _
  go_enter Tryz.func95, Tryz.ntmps95
  go_wp2_with fail
  have hown0 := own_empty w 31 4
  have hb0 : Below w.heap.size w (w.alloc (.cells #[] 31)) := (Below.refl _ _).alloc (Nat.le_refl _) _
  go_loopw [3, 9] (fun v i wr => ∃ (k : Nat) (rs : List (Hd Card)) (A' : Option Addr) (c' : Nat), k ≤ n ∧ i = .int .i64 k ∧ v = .slice A' k c' ∧ wr.ownsRow w.heap.size 31 4 (.slice A' k c') k (rs.flatMap cardSh.enc) ∧ Hid (rs.map Hd.x = xs.take k) ∧ Inners cardSh wr (In w.heap.size wr.heap.size) 109 rs ∧ (∀ r ∈ rs, ∀ b, OwnB r.A b → ¬ OwnB A' b) ∧ Below w.heap.size w wr) (fun _ i _ => n - (intOf i).toNat)
  case atStart => exact ⟨0, [], _, _, Nat.zero_le _, rfl, rfl, hown0, Lib.hid rfl, Inners.nil _, by simp, hb0⟩
  case round =>
    obtain ⟨k, rs, A', c', hk, rfl, rfl, hown, HR, hin, hap, hb⟩ := hrel
    by_cases hlt : k < n
    · obtain ⟨b, off, B0, mc, cc0, rfl, hkx, x0, x1, x2, x3, hxi⟩ := SeesCard.elem (hx.next hb) hlt
      have hmb : mc ≤ 1048576 := by
        have h1 := hi xs[k] (List.getElem_mem hkx)
        have hmc := hxi.count (by decide) (fun _ => rfl)
        unfold Card.cnt at h1
        omega
      have hblt : b < wr.heap.size := World.block_lt_of_cell? wr _ x0
      have hzw := hb.size
      have HN := Lib.hid (show (rs ++ [(⟨xs[k], none, 0, 0⟩ : Hd Card)]).map Hd.x = xs.take (k + 1) by rw [List.map_append, HR.out, List.take_succ_eq_append_getElem hkx]; rfl)
      go_wp2_with fail
      have K1 : Below wr.heap.size wr (wr.alloc (.cells #[.int .i64 xs[k].number, .int .i64 xs[k].start, .int .i64 xs[k].finish, .slice B0 mc cc0] 31)) := (Below.refl _ _).alloc (Nat.le_refl _) _
      refine (newCard_any B0 mc cc0 0 xs[k] _ (hxi.next K1) hmb).mono ?_
      rintro e w2 ⟨B1, d1, rfl, o1, b2⟩
      have K2 := bel_then K1 b2
      have z2 := b2.size
      simp only [World.size_alloc] at z2 o1
      have hown2 := own_below hown K2
      have hin2 := hin.next K2
      clear x0 x1 x2 x3
      go_wp2_with (at_builtin; go_loud (refine wpList_pushNew rfl _ _ _ rfl Tryz.underlying25 info_impl_Card rfl (by decide) rfl hown2 rfl (by simp) (by rfl) (by rfl) (by omega) (by decide) (by omega) ?_); intro A2 c2 w3 hown3 ho3 hbb3 hat3)
      have hs := nest_snoc (sh := cardSh) (x := xs[k]) (B1 := B1) (d := d1) (D := fun _ => False) hin2 hap (fun b hb => (own_top hown hb).2) o1 (fun b hb => hb.elim) (by omega) (Only.refl _ _) ho3 hat3 hzw (by omega)
      go_roundw
      case rel => exact ⟨k + 1, rs ++ [⟨xs[k], B1, mc, d1⟩], A2, c2, by omega, by go_num, rfl, by rw [List.flatMap_append]; exact hown3, Lib.hid (by have h := HN.out; rw [List.map_append] at h ⊢; exact h), hs.1, hs.2, (hb.trans (K2.mono hzw)).trans hbb3⟩
      case measure => simp [intOf]; omega
    · obtain rfl : k = n := by omega
      have HE := Lib.hid (show rs.map Hd.x = xs by rw [HR.out, List.take_of_length_le (by omega)])
      go_wp2_with fail
      go_ret
      have e := HL.out
      subst e
      exact ⟨A', c', rfl, ⟨rs, HE.out, Mine.of hown, hin, hap⟩, hb⟩

set_option maxRecDepth 100000 in
set_option maxHeartbeats 2000000 in
theorem l25List_any (A : Option Addr) (n c : Nat) (xs : List Card) (w : World) (hx : SeesN cardSh w 0 A n xs) (hn : n ≤ 1048576) (hi : ∀ x ∈ xs, x.cnt ≤ 1048576) :
    Calls Tryz.prog 97 #[.slice A n c] w (GivesCards w xs) := by
  have HL := Lib.hid hx.count
  have hl1 : xs.length ≤ n := by rw [HL.out]; exact Nat.le_refl _
  have hl2 : n ≤ xs.length := by rw [HL.out]; exact Nat.le_refl _
  go_enter Tryz.func97, Tryz.ntmps97
  go_wp2_with fail
  have hown0 := own_empty w 31 4
  have hb0 : Below w.heap.size w (w.alloc (.cells #[] 31)) := (Below.refl _ _).alloc (Nat.le_refl _) _
  go_loopw [3, 4] (fun v i wr => ∃ (k : Nat) (rs : List (Hd Card)) (A' : Option Addr) (c' : Nat), k ≤ n ∧ i = .int .i64 k ∧ v = .slice A' k c' ∧ wr.ownsRow w.heap.size 31 4 (.slice A' k c') k (rs.flatMap cardSh.enc) ∧ Hid (rs.map Hd.x = xs.take k) ∧ Inners cardSh wr (In w.heap.size wr.heap.size) 109 rs ∧ (∀ r ∈ rs, ∀ b, OwnB r.A b → ¬ OwnB A' b) ∧ Below w.heap.size w wr) (fun _ i _ => n - (intOf i).toNat)
  case atStart => exact ⟨0, [], _, _, Nat.zero_le _, rfl, rfl, hown0, Lib.hid rfl, Inners.nil _, by simp, hb0⟩
  case round =>
    obtain ⟨k, rs, A', c', hk, rfl, rfl, hown, HR, hin, hap, hb⟩ := hrel
    by_cases hlt : k < n
    · obtain ⟨b, off, B0, mc, cc0, rfl, hkx, x0, x1, x2, x3, hxi⟩ := SeesCard.elem (hx.next hb) hlt
      have hmb : mc ≤ 1048576 := by
        have h1 := hi xs[k] (List.getElem_mem hkx)
        have hmc := hxi.count (by decide) (fun _ => rfl)
        unfold Card.cnt at h1
        omega
      have hblt : b < wr.heap.size := World.block_lt_of_cell? wr _ x0
      have hzw := hb.size
      have HN := Lib.hid (show (rs ++ [(⟨xs[k], none, 0, 0⟩ : Hd Card)]).map Hd.x = xs.take (k + 1) by rw [List.map_append, HR.out, List.take_succ_eq_append_getElem hkx]; rfl)
      go_wp2_with fail
      refine (l12Own_any B0 mc cc0 0 xs[k] _ hxi hmb).mono ?_
      rintro e w2 ⟨B1, d1, rfl, o1, b2⟩
      have K2 := b2
      have z2 := b2.size
      have hown2 := own_below hown K2
      have hin2 := hin.next K2
      clear x0 x1 x2 x3
      go_wp2_with (at_builtin; go_loud (refine wpList_pushNew rfl _ _ _ rfl Tryz.underlying25 info_impl_Card rfl (by decide) rfl hown2 rfl (by simp) (by rfl) (by rfl) (by omega) (by decide) (by omega) ?_); intro A2 c2 w3 hown3 ho3 hbb3 hat3)
      have hs := nest_snoc (sh := cardSh) (x := xs[k]) (B1 := B1) (d := d1) (D := fun _ => False) hin2 hap (fun b hb => (own_top hown hb).2) o1 (fun b hb => hb.elim) (by omega) (Only.refl _ _) ho3 hat3 hzw (by omega)
      go_roundw
      case rel => exact ⟨k + 1, rs ++ [⟨xs[k], B1, mc, d1⟩], A2, c2, by omega, by go_num, rfl, by rw [List.flatMap_append]; exact hown3, Lib.hid (by have h := HN.out; rw [List.map_append] at h ⊢; exact h), hs.1, hs.2, (hb.trans (K2.mono hzw)).trans hbb3⟩
      case measure => simp [intOf]; omega
    · obtain rfl : k = n := by omega
      have HE := Lib.hid (show rs.map Hd.x = xs by rw [HR.out, List.take_of_length_le (by omega)])
      go_wp2_with fail
      go_ret
      have e := HL.out
      subst e
      exact ⟨A', c', rfl, ⟨rs, HE.out, Mine.of hown, hin, hap⟩, hb⟩

end Go.Proofs.YtkimlajfhepfgaaGreat

namespace Go.Proofs.YtkimlajfhepfgaaGreat
open Go.RowKit

end Go.Proofs.YtkimlajfhepfgaaGreat

namespace Go.Proofs.YtkimlajfhepfgaaGreat
open Go.RowKit

/-- Block g from the place off on. -/
def BlkO (w : World) (g off : Nat) (t : TypeId) (cs : List Value) : Prop := ∃ pre : List Value, pre.length = off ∧ Blk w g t (pre ++ cs)
section
variable {w w' : World} {g off : Nat} {t : TypeId} {cs : List Value}
theorem BlkO.of (h : Blk w g t cs) : BlkO w g 0 t cs := ⟨[], rfl, h⟩
theorem BlkO.cellp (h : BlkO w g off t cs) (i p : Nat) (hp : p = off + i) : w.cell? ⟨g, p, none⟩ = cs[i]? := by
  obtain ⟨pre, rfl, h⟩ := h
  subst hp
  rw [h.cell, List.getElem?_append_right (by omega)]
  congr 1
  omega
theorem BlkO.frozen (h : BlkO w g off t cs) (p : Nat) : w.frozen? ⟨g, p, none⟩ = false := by
  obtain ⟨pre, _, h⟩ := h
  exact h.frozen p
theorem BlkO.set_ (h : BlkO w g off t cs) (i p : Nat) (hp : p = off + i) (u : Value) : BlkO (w.setCell ⟨g, p, none⟩ u) g off t (cs.set i u) := by
  obtain ⟨pre, rfl, h⟩ := h
  subst hp
  refine ⟨pre, rfl, ?_⟩
  have h2 := h.set_ (pre.length + i) u
  rwa [List.set_append_right _ _ (by omega), Nat.add_sub_cancel_left] at h2
theorem BlkO.only {T : Nat → Prop} (h : BlkO w g off t cs) (ho : Only T w w') (hT : ¬ T g) : BlkO w' g off t cs := by
  obtain ⟨pre, e, h⟩ := h
  exact ⟨pre, e, h.only ho hT⟩
theorem BlkO.next (h : BlkO w g off t cs) (hb : Below w.heap.size w w') : BlkO w' g off t cs := by
  obtain ⟨pre, e, h⟩ := h
  exact ⟨pre, e, h.next hb⟩
theorem BlkO.lt (h : BlkO w g off t cs) : g < w.heap.size := by
  obtain ⟨pre, _, h⟩ := h
  exact h.lt
end
/-- A slice of structs with one slice inside, of the call's own, wherever it begins in its block. -/
def MineO {α : Type} (sh : Sh α) (w : World) (S : Nat → Prop) (t ti : TypeId) (A : Option Addr) (n : Nat) (xs : List α) : Prop :=
  ∃ rs : List (Hd α), rs.map Hd.x = xs ∧ Inners sh w S ti rs ∧ rs.length = n ∧ (n = 0 ∨ ∃ g off cs, A = some ⟨g, off, none⟩ ∧ S g ∧ BlkO w g off t cs ∧ n * sh.s ≤ cs.length ∧ cs.take (n * sh.s) = rs.flatMap sh.enc ∧ ∀ r ∈ rs, ¬ OwnB r.A g)
section
variable {α : Type} {sh : Sh α} {w w' : World} {S U : Nat → Prop} {t ti : TypeId} {A : Option Addr} {n : Nat} {xs : List α}
theorem MineO.of {c : Nat} (h : MineN sh w S t ti A n c xs) : MineO sh w S t ti A n xs := by
  have hl := h.count
  obtain ⟨rs, hrs, h⟩ := h
  refine ⟨rs, hrs, h.inners, by rw [← hl, ← hrs, List.length_map], ?_⟩
  rcases own_open h.outer.own with ⟨_, h0, _, _⟩ | ⟨g, cur, rfl, hg, hB, hcl, hnc, hcm, htk⟩
  · exact .inl h0
  · exact .inr ⟨g, 0, cur, rfl, h.outer.top g rfl, .of hB, by rw [hcl]; exact Nat.mul_le_mul_right _ hnc, htk, fun r hr hb => h.apart r hr g hb rfl⟩
theorem MineO.empty (w : World) (S : Nat → Prop) (t ti : TypeId) (A : Option Addr) : MineO sh w S t ti A 0 ([] : List α) := ⟨[], rfl, Inners.nil _, rfl, .inl rfl⟩
theorem MineO.next (h : MineO sh w S t ti A n xs) (hb : Below w.heap.size w w') : MineO sh w' S t ti A n xs := by
  obtain ⟨rs, h1, h2, h3, h4⟩ := h
  exact ⟨rs, h1, h2.next hb, h3, h4.imp id fun ⟨g, off, cs, e, hS, hB, r⟩ => ⟨g, off, cs, e, hS, hB.next hb, r⟩⟩
theorem MineO.only (h : MineO sh w S t ti A n xs) (ho : Only U w w') (hS : ∀ b, S b → U b → False) : MineO sh w' S t ti A n xs := by
  obtain ⟨rs, h1, h2, h3, h4⟩ := h
  exact ⟨rs, h1, h2.only ho hS, h3, h4.imp id fun ⟨g, off, cs, e, hg, hB, r⟩ => ⟨g, off, cs, e, hg, hB.only ho (fun hu => hS g hg hu), r⟩⟩
theorem MineO.wide (h : MineO sh w S t ti A n xs) (hS : ∀ b, S b → U b) : MineO sh w U t ti A n xs := by
  obtain ⟨rs, h1, h2, h3, h4⟩ := h
  exact ⟨rs, h1, h2.wide hS, h3, h4.imp id fun ⟨g, off, cs, e, hg, r⟩ => ⟨g, off, cs, e, hS g hg, r⟩⟩
theorem MineO.count (h : MineO sh w S t ti A n xs) : xs.length = n := by
  obtain ⟨rs, rfl, _, h3, _⟩ := h
  rw [List.length_map]; exact h3
theorem MineO.sees (h : MineO sh w S t ti A n xs) : SeesN sh w 0 A n xs := by
  obtain ⟨rs, h1, h2, h3, h4⟩ := h
  refine ⟨rs, h1, ⟨by rw [heads_len, h3], fun h0 => ?_⟩, fun r hr => (h2.each r hr).sees⟩
  rcases h4 with h4 | ⟨g, off, cs, rfl, hS, hB, hle, htk, _⟩
  · omega
  · refine ⟨g, off, rfl, Nat.zero_le _, hB.lt, fun j u hu => ?_⟩
    rw [hB.cellp j _ rfl]
    rw [← htk, List.getElem?_take] at hu
    split at hu
    · exact hu
    · cases hu
end

end Go.Proofs.YtkimlajfhepfgaaGreat

namespace Go.Proofs.YtkimlajfhepfgaaGreat
open Go.RowKit

structure DeskV where
  codes : List Int
  known : List Int
  queue : List Card
  done : List DeskRow
  trouble : List Card
deriving DecidableEq
/-- Where a Desk's slices lie. -/
structure DeskH where
  A0 : Option Addr
  n0 : Nat
  c0 : Nat
  A1 : Option Addr
  n1 : Nat
  c1 : Nat
  A2 : Option Addr
  n2 : Nat
  c2 : Nat
  A3 : Option Addr
  n3 : Nat
  c3 : Nat
  A4 : Option Addr
  n4 : Nat
  c4 : Nat
structure SeesDesk (w : World) (lo : Nat) (h : DeskH) (d : DeskV) : Prop where
  f0 : Sees w lo 1 h.A0 h.n0 (ints d.codes)
  f1 : Sees w lo 1 h.A1 h.n1 (ints d.known)
  f2 : SeesN cardSh w lo h.A2 h.n2 d.queue
  f3 : Sees w lo 3 h.A3 h.n3 (d.done.flatMap DeskRow.enc)
  f4 : SeesN cardSh w lo h.A4 h.n4 d.trouble
/-- The blocks of S that a colouring gives to field i. -/
def Hue (S : Nat → Prop) (col : Nat → Nat) (i : Nat) (b : Nat) : Prop := S b ∧ col b = i
structure MineCDesk (w : World) (S : Nat → Prop) (col : Nat → Nat) (h : DeskH) (d : DeskV) : Prop where
  f0 : Mine w (Hue S col 0) 3 1 h.A0 h.n0 h.c0 (ints d.codes)
  f1 : Mine w (Hue S col 1) 3 1 h.A1 h.n1 h.c1 (ints d.known)
  f2 : MineO cardSh w (Hue S col 2) 31 109 h.A2 h.n2 d.queue
  f3 : Mine w (Hue S col 3) 41 3 h.A3 h.n3 h.c3 (d.done.flatMap DeskRow.enc)
  f4 : MineO cardSh w (Hue S col 4) 31 109 h.A4 h.n4 d.trouble
def MineDesk (w : World) (S : Nat → Prop) (h : DeskH) (d : DeskV) : Prop := ∃ col, MineCDesk w S col h d
/-- Of a size that fits. -/
structure DeskFit (t : Nat) (h : DeskH) (d : DeskV) : Prop where
  n0 : h.n0 ≤ t
  n1 : h.n1 ≤ t
  n2 : h.n2 ≤ t
  k2 : ∀ x ∈ d.queue, x.cnt ≤ t
  n3 : h.n3 ≤ t
  n4 : h.n4 ≤ t
  k4 : ∀ x ∈ d.trouble, x.cnt ≤ t
theorem Hue.wide {S T : Nat → Prop} {col : Nat → Nat} {i : Nat} (hS : ∀ b, S b → T b) : ∀ b, Hue S col i b → Hue T col i b := fun b hb => ⟨hS b hb.1, hb.2⟩
theorem Hue.apart {S : Nat → Prop} {col : Nat → Nat} {i j : Nat} (h : i ≠ j) : ∀ b, Hue S col i b → Hue S col j b → False := fun _ h1 h2 => h (h1.2.symm.trans h2.2)
section
variable {w w' : World} {lo : Nat} {S U : Nat → Prop} {col : Nat → Nat} {h : DeskH} {d : DeskV}
theorem SeesDesk.below {C : Nat} (x : SeesDesk w lo h d) (hk : Below C w w') (hC : w.heap.size ≤ C) : SeesDesk w' lo h d := ⟨x.f0.below hk hC, x.f1.below hk hC, x.f2.below hk hC, x.f3.below hk hC, x.f4.below hk hC⟩
theorem SeesDesk.next (x : SeesDesk w lo h d) (hb : Below w.heap.size w w') : SeesDesk w' lo h d := ⟨x.f0.next hb, x.f1.next hb, x.f2.next hb, x.f3.next hb, x.f4.next hb⟩
theorem MineDesk.next (x : MineDesk w S h d) (hb : Below w.heap.size w w') : MineDesk w' S h d := by
  obtain ⟨col, x⟩ := x
  exact ⟨col, ⟨x.f0.next hb, x.f1.next hb, x.f2.next hb, x.f3.next hb, x.f4.next hb⟩⟩
theorem MineDesk.only (x : MineDesk w S h d) (ho : Only U w w') (hS : ∀ b, S b → U b → False) : MineDesk w' S h d := by
  obtain ⟨col, x⟩ := x
  exact ⟨col, ⟨x.f0.only ho (fun b hb hu => hS b hb.1 hu), x.f1.only ho (fun b hb hu => hS b hb.1 hu), x.f2.only ho (fun b hb hu => hS b hb.1 hu), x.f3.only ho (fun b hb hu => hS b hb.1 hu), x.f4.only ho (fun b hb hu => hS b hb.1 hu)⟩⟩
theorem MineDesk.wide (x : MineDesk w S h d) (hS : ∀ b, S b → U b) : MineDesk w U h d := by
  obtain ⟨col, x⟩ := x
  exact ⟨col, ⟨x.f0.wide (Hue.wide hS), x.f1.wide (Hue.wide hS), x.f2.wide (Hue.wide hS), x.f3.wide (Hue.wide hS), x.f4.wide (Hue.wide hS)⟩⟩
theorem MineCDesk.sees (x : MineCDesk w S col h d) : SeesDesk w 0 h d := ⟨x.f0.sees, x.f1.sees, x.f2.sees, x.f3.sees, x.f4.sees⟩
theorem MineDesk.sees (x : MineDesk w S h d) : SeesDesk w 0 h d := by
  obtain ⟨col, x⟩ := x
  exact x.sees
/-- the fit at other headers of the same lengths -/
theorem DeskFit.at_ {t : Nat} {h h' : DeskH} (x : DeskFit t h d) (e : h'.n0 = h.n0 ∧ h'.n1 = h.n1 ∧ h'.n2 = h.n2 ∧ h'.n3 = h.n3 ∧ h'.n4 = h.n4 := by exact ⟨rfl, rfl, rfl, rfl, rfl⟩) : DeskFit t h' d := by
  obtain ⟨e0, e1, e2, e3, e4⟩ := e
  exact ⟨e0 ▸ x.n0, e1 ▸ x.n1, e2 ▸ x.n2, x.k2, e3 ▸ x.n3, e4 ▸ x.n4, x.k4⟩
end

end Go.Proofs.YtkimlajfhepfgaaGreat

namespace Go.Proofs.YtkimlajfhepfgaaGreat
open Go.RowKit

section
variable {α : Type} (lt : α → α → Bool)
/-- where e goes, sought from place k downwards -/
def posR (P : List α) (e : α) : Nat → Nat
  | 0 => 0
  | k + 1 => match P[k]? with
    | some p => if lt e p then posR P e k else k + 1
    | none => k + 1
def insR (P : List α) (e : α) : List α := P.take (posR lt P e P.length) ++ e :: P.drop (posR lt P e P.length)
def sortR (xs : List α) : List α := xs.foldl (insR lt) []
theorem posR_yes {P : List α} {e : α} {k : Nat} (hk : k < P.length) (h : lt e P[k] = true) : posR lt P e (k + 1) = posR lt P e k := by
  simp [posR, List.getElem?_eq_getElem hk, h]
theorem posR_no {P : List α} {e : α} {k : Nat} (hk : k < P.length) (h : lt e P[k] = false) : posR lt P e (k + 1) = k + 1 := by
  simp [posR, List.getElem?_eq_getElem hk, h]
theorem insR_at {P : List α} {e : α} {k : Nat} (h : posR lt P e P.length = k) : insR lt P e = P.take k ++ e :: P.drop k := by
  unfold insR; rw [h]
theorem insR_perm (P : List α) (e : α) : (insR lt P e).Perm (e :: P) := by
  unfold insR
  refine (List.perm_middle).trans (List.Perm.cons _ ?_)
  rw [List.take_append_drop]
theorem sortR_nil : sortR lt ([] : List α) = [] := rfl
theorem sortR_one (x : α) : sortR lt [x] = [x] := rfl
theorem sortR_snoc (l : List α) (x : α) : sortR lt (l ++ [x]) = insR lt (sortR lt l) x := by simp [sortR]
theorem sortR_next {l : List α} {k : Nat} (h : k < l.length) : sortR lt (l.take (k + 1)) = insR lt (sortR lt (l.take k)) l[k] := by
  rw [List.take_succ_eq_append_getElem h, sortR_snoc]
theorem foldl_insR_perm : ∀ (l acc : List α), (l.foldl (insR lt) acc).Perm (acc ++ l)
  | [], acc => by simp
  | x :: l, acc => by
    rw [List.foldl_cons]
    refine (foldl_insR_perm l _).trans ?_
    refine ((insR_perm lt acc x).append_right l).trans ?_
    exact (List.perm_middle (l₁ := acc) (a := x) (l₂ := l)).symm
theorem sortR_perm (xs : List α) : (sortR lt xs).Perm xs := by simpa [sortR] using foldl_insR_perm lt xs []
theorem sortR_length (xs : List α) : (sortR lt xs).length = xs.length := (sortR_perm lt xs).length_eq
theorem sortR_mem {xs : List α} {x : α} : x ∈ sortR lt xs ↔ x ∈ xs := (sortR_perm lt xs).mem_iff
end

section
variable {α : Type} {enc : α → List Value} {s : Nat}
theorem row_get (henc : ∀ x, (enc x).length = s) {xs : List α} {rest : List Value} {k j : Nat} (hk : k < xs.length) (hj : j < s) : (xs.flatMap enc ++ rest)[k * s + j]? = (enc xs[k])[j]? := by
  have hl := flatMap_len xs (fun x _ => henc x)
  have h1 : (k + 1) * s ≤ xs.length * s := Nat.mul_le_mul_right s hk
  rw [Nat.succ_mul] at h1
  rw [List.getElem?_append_left (by omega), flatMap_get xs (fun x _ => henc x) k j hk hj]
theorem row_cell (henc : ∀ x, (enc x).length = s) {w : World} {g : Nat} {t : TypeId} {xs : List α} {rest : List Value} (h : Blk w g t (xs.flatMap enc ++ rest)) {k : Nat} (hk : k < xs.length) (j : Nat) (u : Value) (hu : (enc xs[k])[j]? = some u) : w.cell? ⟨g, k * s + j, none⟩ = some u := by
  have hj : j < s := by
    have := (List.getElem?_eq_some_iff.1 hu).1
    rwa [henc] at this
  rw [h.cell, row_get henc hk hj, hu]
theorem row_cell? (henc : ∀ x, (enc x).length = s) {w : World} {g : Nat} {t : TypeId} {xs : List α} {rest : List Value} (h : Blk w g t (xs.flatMap enc ++ rest)) {k : Nat} {x : α} (hx : xs[k]? = some x) (j : Nat) (u : Value) (hu : (enc x)[j]? = some u) : w.cell? ⟨g, k * s + j, none⟩ = some u := by
  obtain ⟨hk, rfl⟩ := List.getElem?_eq_some_iff.1 hx
  exact row_cell henc h hk j u hu
theorem row_set (henc : ∀ x, (enc x).length = s) (xs : List α) (rest : List Value) (k : Nat) (y : α) (hk : k < xs.length) : setMany (xs.flatMap enc ++ rest) (k * s) (enc y) = (xs.set k y).flatMap enc ++ rest := by
  have hl := flatMap_len xs (fun x _ => henc x)
  have hl2 := flatMap_len (xs.set k y) (fun x _ => henc x)
  rw [List.length_set] at hl2
  have h1 : (k + 1) * s ≤ xs.length * s := Nat.mul_le_mul_right s hk
  rw [Nat.succ_mul] at h1
  refine List.ext_getElem? fun i => ?_
  rw [setMany_get _ _ _ _ (by rw [henc, List.length_append]; omega), henc]
  by_cases hs : s = 0
  · subst hs
    rw [if_neg (by omega)]
    rw [Nat.mul_zero] at hl hl2
    rw [List.eq_nil_of_length_eq_zero hl, List.eq_nil_of_length_eq_zero hl2]
  by_cases h2 : i < xs.length * s
  · have hd := Nat.div_add_mod' i s
    have hm := Nat.mod_lt i (show 0 < s by omega)
    have hq : i / s < xs.length := Nat.div_lt_of_lt_mul (by rw [Nat.mul_comm]; exact h2)
    have e1 : ∀ (l : List α) (hl : i / s < l.length), (l.flatMap enc ++ rest)[i]? = (enc l[i / s])[i % s]? := fun l hl => by
      have := row_get henc (rest := rest) hl hm
      rwa [hd] at this
    rw [e1 (xs.set k y) (by simpa using hq)]
    by_cases h3 : k * s ≤ i ∧ i < k * s + s
    · rw [if_pos h3]
      have hk2 : i / s = k := by
        have a1 : k ≤ i / s := (Nat.le_div_iff_mul_le (by omega)).2 h3.1
        have a2 : i / s < k + 1 := (Nat.div_lt_iff_lt_mul (by omega)).2 (by rw [Nat.succ_mul]; exact h3.2)
        omega
      have e2 : (xs.set k y)[i / s]'(by simpa using hq) = y := by simp [hk2]
      rw [e2]
      congr 1
      rw [hk2] at hd
      omega
    · rw [if_neg h3, e1 xs hq]
      have hk2 : k ≠ i / s := fun e => h3 (by rw [← e] at hd; omega)
      rw [List.getElem_set_ne hk2]
  · rw [if_neg (by omega), List.getElem?_append_right (by omega), List.getElem?_append_right (by omega), hl, hl2]
theorem swap_at {L M : List α} {p e : α} {m : Nat} (h : L.length = m) : (((L ++ p :: e :: M).set (m + 1) p).set m e) = L ++ e :: p :: M := by
  subst h
  simp
end
/-- What two elements answer, in every later world. -/
structure Compares {α : Type} (g : Nat) (lb : Array Value) (enc : α → Value) (cf : α → α → Int) (D : α → Prop) : Prop where
  enters : ∀ args w, (callFunc g args).run Tryz.prog w = .ok (.enter g args) w
  at' : ∀ (x y : α), D x → D y → ∀ W : World, Calls Tryz.prog g (#[enc x, enc y] ++ lb) W fun e W' => e = .returned (.int .i64 (cf x y)) ∧ Below W.heap.size W W'
def ltOf' {α : Type} (cf : α → α → Int) (x y : α) : Bool := decide (cf x y < 0)
/-- What holds within the round of e: the elements before place m stand, those behind have moved. -/
theorem ins_split {α : Type} {pre P R row : List α} {e : α} {j m : Nat} (hm : m = pre.length + (j + 1)) (hj : j < P.length) (h : row = pre ++ (P.take (j + 1) ++ e :: P.drop (j + 1)) ++ R) :
    ∃ L M, row = L ++ P[j] :: e :: M ∧ L.length + 1 = m ∧ pre ++ (P.take j ++ e :: P.drop j) ++ R = L ++ e :: P[j] :: M := by
  refine ⟨pre ++ P.take j, P.drop (j + 1) ++ R, ?_, ?_, ?_⟩
  · rw [h, List.take_succ_eq_append_getElem hj]; simp only [List.append_assoc, List.cons_append, List.nil_append]
  · rw [List.length_append, List.length_take]; omega
  · have e2 : P.drop j = P[j] :: P.drop (j + 1) := List.drop_eq_getElem_cons hj
    rw [e2]; simp only [List.append_assoc, List.cons_append]
theorem mid_get {α : Type} {L M : List α} {p e : α} : (L ++ p :: e :: M)[L.length]? = some p ∧ (L ++ p :: e :: M)[L.length + 1]? = some e := by
  refine ⟨?_, ?_⟩
  · rw [List.getElem?_append_right (Nat.le_refl _)]; simp
  · rw [List.getElem?_append_right (by omega)]; simp

def cmpI (a b : Int) : Int := if a < b then -1 else if b < a then 1 else 0
theorem cmpI_neg (a b : Int) : cmpI a b < 0 ↔ a < b := by unfold cmpI; split <;> (try split) <;> omega
theorem cmpI_zero (a b : Int) : cmpI a b = 0 ↔ a = b := by unfold cmpI; split <;> (try split) <;> omega
def orI : List Int → Int
  | [] => 0
  | x :: l => if x ≠ 0 then x else orI l
end Go.Proofs.YtkimlajfhepfgaaGreat

namespace Go.Proofs.YtkimlajfhepfgaaGreat
open Go.RowKit

structure Missing where
  runner : Int
  start : Int
  seen : Int
  place : Int
deriving DecidableEq
def Missing.enc (x : Missing) : List Value := [.int .i64 x.runner, .int .i64 x.start, .int .i64 x.seen, .int .i64 x.place]
structure Sector where
  cell : Int
  chance : Int
deriving DecidableEq
def Sector.enc (x : Sector) : List Value := [.int .i64 x.cell, .int .i64 x.chance]
end Go.Proofs.YtkimlajfhepfgaaGreat

namespace Go.Proofs.YtkimlajfhepfgaaGreat
open Go.RowKit

def isMissingB (r s n p : Int) : Bool := inB r 1 999 && inB s 0 36000 && inB n s 36000 && decide (0 ≤ p)

/-- Both LongMissings, from what is left of the list on. -/
def longGo (time limit : Int) : List Missing → List Int → Option (List Int)
  | [], out => some out
  | x :: l, out => if isMissingB x.runner x.start x.seen x.place && decide (x.seen ≤ time) then longGo time limit l (if limit < time - x.start then out ++ [x.runner] else out) else none
end Go.Proofs.YtkimlajfhepfgaaGreat

namespace Go.Proofs.YtkimlajfhepfgaaGreat
open Go.RowKit

/-- The function value answers p at each element, in every later world. -/
structure Answers {α : Type} (g : Nat) (lb : Array Value) (enc : α → Value) (p : α → Bool) (xs : List α) (w : World) : Prop where
  enters : ∀ args w, (callFunc g args).run Tryz.prog w = .ok (.enter g args) w
  at' : ∀ (i : Nat) (hi : i < xs.length) (W : World), Below w.heap.size w W → Calls Tryz.prog g (#[enc xs[i]] ++ lb) W fun e W' => e = .returned (.bool (p xs[i])) ∧ Below W.heap.size W W'
/-- The first place at which p holds, or -1. -/
def FirstAt {α : Type} (p : α → Bool) (xs : List α) (r : Int) : Prop :=
  (r = -1 ∧ xs.any p = false) ∨ ∃ k : Nat, r = k ∧ ∃ hk : k < xs.length, p xs[k] = true ∧ (xs.take k).any p = false
theorem any_take_succ {α : Type} {p : α → Bool} {xs : List α} {k : Nat} (hk : k < xs.length) (h : (xs.take k).any p = false) (hp : p xs[k] = false) : (xs.take (k + 1)).any p = false := by
  rw [List.take_succ_eq_append_getElem hk, List.any_append, h]
  simp [hp]
theorem FirstAt.any {α : Type} {p : α → Bool} {xs : List α} {r : Int} (h : FirstAt p xs r) : decide (0 ≤ r) = xs.any p := by
  rcases h with ⟨rfl, h⟩ | ⟨k, rfl, hk, hp, _⟩
  · rw [h]; rfl
  · rw [decide_eq_true (by omega), eq_comm, List.any_eq_true]
    exact ⟨_, List.getElem_mem hk, hp⟩

set_option maxRecDepth 100000 in
theorem IndexFunc_int (g : Nat) (lb : Array Value) (p : Int → Bool) (A : Option Addr) (n c : Nat) (xs : List Int) (w : World) (hx : Sees w 0 1 A n (ints xs)) (hn : n ≤ 140737488355328) (hp : Answers g lb (.int .i64) p xs w) :
    Calls Tryz.prog 100 #[.slice A n c, .func (.func g) #[] lb] w fun e w' => ∃ r, e = .returned (.int .i64 r) ∧ FirstAt p xs r ∧ Below w.heap.size w w' := by
  have hl := hx.icount
  have eg := hp.enters
  go_enter Tryz.func100, Tryz.ntmps100
  go_wp2_with fail
  go_loopw [8] (fun v wr => ∃ k : Nat, k ≤ n ∧ v = .int .i64 k ∧ Hid ((xs.take k).any p = false) ∧ Below w.heap.size w wr) (fun v _ => n - (intOf v).toNat)
  case atStart => exact ⟨0, Nat.zero_le _, rfl, by simp [Hid], Below.refl _ _⟩
  case round =>
    obtain ⟨k, hk, rfl, ht, hb⟩ := hrel
    by_cases hlt : k < n
    · obtain ⟨b, off, rfl, hkx, hcx⟩ := (hx.next hb).int hlt
      go_wp2_with fail
      refine (hp.at' k hkx _ hb).mono ?_
      cases hpk : p xs[k]
      · rintro e w1 ⟨rfl, b1⟩
        go_wp2_with fail
        go_roundw
        case rel => exact ⟨k + 1, by omega, by go_num, any_take_succ hkx ht.out hpk, bel_then hb b1⟩
        case measure => simp [intOf]; omega
      · rintro e w1 ⟨rfl, b1⟩
        go_wp2_with fail
        go_ret
        exact ⟨_, rfl, .inr ⟨k, rfl, hkx, hpk, ht.out⟩, bel_then hb b1⟩
    · go_wp2_with fail
      go_ret
      have h := ht.out
      rw [List.take_of_length_le (by omega)] at h
      exact ⟨_, rfl, .inl ⟨rfl, h⟩, hb⟩

theorem ContainsFunc_int (g : Nat) (lb : Array Value) (p : Int → Bool) (A : Option Addr) (n c : Nat) (xs : List Int) (w : World) (hx : Sees w 0 1 A n (ints xs)) (hn : n ≤ 140737488355328) (hp : Answers g lb (.int .i64) p xs w) :
    Calls Tryz.prog 85 #[.slice A n c, .func (.func g) #[] lb] w fun e w' => e = .returned (.bool (xs.any p)) ∧ Below w.heap.size w w' := by
  go_enter Tryz.func85, Tryz.ntmps85
  go_wp2_with fail
  refine (IndexFunc_int g lb p A n c xs w hx hn hp).mono ?_
  rintro e w1 ⟨r, rfl, hr, b1⟩
  have hany := Lib.hid hr.any
  go_wp2_with fail
  all_goals go_ret
  all_goals exact ⟨ret_bool hany.out, b1⟩

/-- Go's slices.Contains at []int, by its own Index. -/
theorem Index_int (A : Option Addr) (n c : Nat) (xs : List Int) (v0 : Int) (w : World) (hx : Sees w 0 1 A n (ints xs)) (hn : n ≤ 140737488355328) :
    Calls Tryz.prog 91 #[.slice A n c, .int .i64 v0] w fun e w' => ∃ r, e = .returned (.int .i64 r) ∧ FirstAt (fun x => decide (v0 = x)) xs r ∧ Quiet w w' := by
  have hl := hx.icount
  go_enter Tryz.func91, Tryz.ntmps91
  go_wp2_with fail
  go_loopw [8] (fun v wr => ∃ k : Nat, k ≤ n ∧ v = .int .i64 k ∧ Hid ((xs.take k).any (fun x => decide (v0 = x)) = false) ∧ Quiet w wr) (fun v _ => n - (intOf v).toNat)
  case atStart => exact ⟨0, Nat.zero_le _, rfl, by simp [Hid], Quiet.refl _⟩
  case round =>
    obtain ⟨k, hk, rfl, ht, hq⟩ := hrel
    by_cases hlt : k < n
    · obtain ⟨b, off, rfl, hkx, hcx⟩ := (hx.quiet hq).int hlt
      by_cases hv : v0 = xs[k]
      · have hv' : (v0 == xs[k]) = true := by simp [hv]
        have HV := Lib.hid hv
        clear hv
        go_wp2_with fail
        go_ret
        exact ⟨_, rfl, .inr ⟨k, rfl, hkx, by simp [HV.out], ht.out⟩, hq⟩
      · have hv' : (v0 == xs[k]) = false := by simp [hv]
        go_wp2_with fail
        go_roundw
        case rel => exact ⟨k + 1, by omega, by go_num, any_take_succ hkx ht.out (by simp [hv]), hq⟩
        case measure => simp [intOf]; omega
    · go_wp2_with fail
      go_ret
      have h := ht.out
      rw [List.take_of_length_le (by omega)] at h
      exact ⟨_, rfl, .inl ⟨rfl, h⟩, hq⟩
theorem Contains_int (A : Option Addr) (n c : Nat) (xs : List Int) (v : Int) (w : World) (hx : Sees w 0 1 A n (ints xs)) (hn : n ≤ 140737488355328) :
    Calls Tryz.prog 43 #[.slice A n c, .int .i64 v] w fun e w' => e = .returned (.bool (xs.any fun x => decide (v = x))) ∧ Quiet w w' := by
  go_enter Tryz.func43, Tryz.ntmps43
  go_wp2_with fail
  refine (Index_int A n c xs v w hx hn).mono ?_
  rintro e w1 ⟨r, rfl, hr, q1⟩
  have hany := Lib.hid hr.any
  go_wp2_with fail
  all_goals go_ret
  all_goals exact ⟨ret_bool hany.out, q1⟩

end Go.Proofs.YtkimlajfhepfgaaGreat
