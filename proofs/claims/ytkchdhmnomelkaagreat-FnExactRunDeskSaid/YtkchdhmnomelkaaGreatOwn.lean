/- Words on slices of a call's own, beside Base. -/
import Derived.Test.YtkchdhmnomelkaaGreatS0
import Derived.Laws.AppendOwnNone
namespace Go.Proofs.YtkchdhmnomelkaaGreat
open Go.RowKit

theorem quiet_rightG {P : Program} {f : FuncId} {args : Array Value} {w : World} {n : Nat} {v : Value} (h : Calls P f args (w.drewN n) fun e w' => e = .returned v ∧ Quiet (w.drewN n) w') : Calls P f args (w.drewN n) fun e w'' => e = .returned v ∧ ∃ m, w'' = w.drewN m :=
  h.mono fun _ _ ⟨he, q, hq⟩ => ⟨he, n + q, by rw [hq, World.drewN_drewN]⟩
theorem own_empty_at {w : World} {g : Nat} (t s : Nat) (h : w.heap.size = g) : (w.alloc (.cells #[] t)).ownsRow g t s (.slice (some ⟨g, 0, none⟩) 0 0) 0 [] := h ▸ own_empty w t s
theorem own_not {w : World} {base e s n c g : Nat} {A : Option Addr} {cs : List Value} (h : w.ownsRow base e s (.slice A n c) n cs) (hg : g < base) : ¬ OwnB A g := fun hb => by
  have := (h.lt g (ownB_iff.2 hb)).1
  omega
theorem own_only {w w' : World} {base t s n c : Nat} {A : Option Addr} {cs : List Value} {T : Nat → Prop} (h : w.ownsRow base t s (.slice A n c) n cs) (ho : Only T w w') (hS : ∀ b, OwnB A b → ¬ T b) : w'.ownsRow base t s (.slice A n c) n cs := by
  rcases own_open h with ⟨rfl, rfl, rfl, rfl⟩ | ⟨g, cur, rfl, h1, h2, h3, h4, h5, h6⟩
  · exact World.ownsRow_nil _ _ _ _
  · exact own_shut h1 (h2.only ho (hS g rfl)) h3 h4 h5 h6
theorem own_top {w : World} {base t s n c b : Nat} {A : Option Addr} {cs : List Value} (h : w.ownsRow base t s (.slice A n c) n cs) (hb : OwnB A b) : base ≤ b ∧ b < w.heap.size := h.lt b (ownB_iff.2 hb)
theorem cell_only {S : Nat → Prop} {w w' : World} {b o : Nat} (h : Only S w w') (hS : ¬ S b) (hb : b < w.heap.size) : w'.cell? ⟨b, o, none⟩ = w.cell? ⟨b, o, none⟩ := World.cell?_of_block (h.block b hb hS)
/-- A list of integers in memory of the call's own. -/
def GivesL (w : World) (R : List Int) (e : Ending) (w' : World) : Prop :=
  ∃ A c, e = .returned (.slice A R.length c) ∧ w'.ownsRow w.heap.size 3 1 (.slice A R.length c) R.length (ints R) ∧ Below w.heap.size w w'

theorem run_append_zero {P : Program} {w : World} (base : Nat) (t ty e : TypeId) (i : TypeInfo) (size : Nat) (ht : P.underlying t = some (.slice e)) (hi : P.info? e = some i)
    (v : Value) (n : Nat) (xs : List Value) (hown : w.ownsRow base e size v n xs) (B : Option Addr) (d : Nat) :
    (Builtin.append_ #[t, t] ty #[v, .slice B 0 d]).run P w = .ok v w := by
  rcases hown.2 with ⟨rfl, rfl⟩ | ⟨g, cap, cur, rfl, _, _, hnc, _⟩
  · cases B <;> simp [Builtin.append_, run_underlying ht, sizeOf, typeInfo, hi, Builtin.lenOf, Builtin.firstCells, loadCells, loadCellsFrom]
  · cases B <;> simp [Builtin.append_, run_underlying ht, sizeOf, typeInfo, hi, Builtin.lenOf, Builtin.firstCells, hnc, storeCells, loadCells, loadCellsFrom]
/-- append(x, ys...): x a slice of the call's own, ys whatever is seen, nil and empty too. -/
theorem wp_cat {P : Program} {w : World} {o : Oper} {a : Act} {K : Act → World → Prop} {Q : Exit → Act → World → Prop} (sx xx : Operand) (t : TypeId)
    (ho : o.op = .call { callee := .builtin .append, args := #[sx, xx], argTypes := #[t, t] })
    {base : Nat} {e : TypeId} {z : Value} {s bytes : Nat} (ht : P.underlying t = some (.slice e)) (hi : (P.info? e).map (fun i => (i.zero, i.size, i.bytes)) = some (some z, s, bytes)) (hzs : z.cells.size = s) (hsz : 0 < s)
    {A : Option Addr} {n c : Nat} {xs : List Value} (hs : a.eval sx = .slice A n c) (hown : w.ownsRow base e s (.slice A n c) n xs)
    {lo m d : Nat} {B : Option Addr} {ys : List Value} (hx : a.eval xx = .slice B m d) (hB : Sees w lo s B m ys) (h1 : ys.all Value.oneCell' = true)
    (hn : n ≤ 1000000000) (hm : m ≤ 1000000000) (hby : bytes ≤ 1000) (hbase : base ≤ w.heap.size)
    (h : ∀ (A' : Option Addr) (c' : Nat) (w' : World), w'.ownsRow base e s (.slice A' (n + m) c') (n + m) (xs ++ ys) → Only (OwnB A) w w' → Below base w w' → (∀ b, OwnB A' b → OwnB A b ∨ w.heap.size ≤ b) → K (a.put o.dst (.slice A' (n + m) c')) w') : Oper.wp P o a w K Q := by
  obtain ⟨i0, hi, hz0, hz1, hz2⟩ := info_parts hi
  rcases Nat.eq_zero_or_pos m with rfl | hm0
  · have hys : ys = [] := List.eq_nil_of_length_eq_zero (by rw [hB.len]; simp)
    subst hys
    have h2 := h A c w (by simpa using hown) (Only.refl _ _) (Below.refl _ _) (fun b hb => .inl hb)
    have hrun := run_append_zero (P := P) (w := w) base t o.type e i0 s ht hi _ n xs hown B d
    unfold Oper.wp
    rw [Nat.add_zero] at h2
    simp [execOp, ho, resolve, invoke, builtin, hs, hx, hrun, Result.andThen]
    exact h2
  · obtain ⟨b, off, rfl, _, _, hl⟩ := hB.at' hm0
    refine wp_append_lies w sx xx t ho base e i0 z s bytes ht hi hz0 hz1 hz2 hzs hsz _ n xs hs hown ⟨b, off, none⟩ m d ys hx hB.len (fun j u hu => ?_) (List.all_eq_true.1 h1) hm0 (by simp only [maxLen]; omega) ?_ hbase _ rfl (fun g cap w' h2 h3 h4 _ => h _ _ w' h2 ?_ ?_ ?_)
    · have hadd : (⟨b, off, none⟩ : Addr).add j = ⟨b, off + j, none⟩ := by unfold Addr.add; split <;> simp_all
      rw [hadd]; exact hl j u hu
    · exact Nat.le_trans (Nat.mul_le_mul (show n + m ≤ 2000000000 by omega) hby) (by decide)
    · exact ⟨h3.os, h3.tape, h3.output, h3.size, fun k hk hS => h3.block k hk (fun e => hS (ownB_iff.1 e.symm))⟩
    · exact (Below.refl base w).grown h3 hbase (fun k hk => (hown.lt k hk).1)
    · intro b' hb'
      have hb'' : g = b' := by simpa [OwnB, Value.ownBlock] using hb'
      subst hb''
      rcases h4 with h4 | h4
      · exact .inl (ownB_iff.1 h4)
      · exact .inr (by omega)
theorem wpList_cat {P : Program} {w : World} {ops : Array Oper} {rest : List Oper} {o : Oper} {a : Act} {Q : Exit → Act → World → Prop} (hgd : o.guard = none) (sx xx : Operand) (t : TypeId)
    (ho : o.op = .call { callee := .builtin .append, args := #[sx, xx], argTypes := #[t, t] })
    {base : Nat} {e : TypeId} {z : Value} {s bytes : Nat} (ht : P.underlying t = some (.slice e)) (hi : (P.info? e).map (fun i => (i.zero, i.size, i.bytes)) = some (some z, s, bytes)) (hzs : z.cells.size = s) (hsz : 0 < s)
    {A : Option Addr} {n c : Nat} {xs : List Value} (hs : a.eval sx = .slice A n c) (hown : w.ownsRow base e s (.slice A n c) n xs)
    {lo m d : Nat} {B : Option Addr} {ys : List Value} (hx : a.eval xx = .slice B m d) (hB : Sees w lo s B m ys) (h1 : ys.all Value.oneCell' = true)
    (hn : n ≤ 1000000000) (hm : m ≤ 1000000000) (hby : bytes ≤ 1000) (hbase : base ≤ w.heap.size)
    (h : ∀ (A' : Option Addr) (c' : Nat) (w' : World), w'.ownsRow base e s (.slice A' (n + m) c') (n + m) (xs ++ ys) → Only (OwnB A) w w' → Below base w w' → (∀ b, OwnB A' b → OwnB A b ∨ w.heap.size ≤ b) → wpList P ops Q rest (a.put o.dst (.slice A' (n + m) c')) w') : wpList P ops Q (o :: rest) a w :=
  wpList_plain hgd fun _ hK => wp_cat sx xx t ho ht hi hzs hsz hs hown hx hB h1 hn hm hby hbase fun A' c' w' h2 h3 h4 h5 => hK _ _ (h A' c' w' h2 h3 h4 h5)
/-- The same at a step of a region that draws its order. -/
theorem step_cat {P : Program} {w : World} {ops : Array Oper} {o : Oper} {a : Act} {K : Act → World → Prop} {Q : Exit → Act → World → Prop} {E : Prop} (hgd : o.guard = none) (sx xx : Operand) (t : TypeId)
    (ho : o.op = .call { callee := .builtin .append, args := #[sx, xx], argTypes := #[t, t] })
    {base : Nat} {e : TypeId} {z : Value} {s bytes : Nat} (ht : P.underlying t = some (.slice e)) (hi : (P.info? e).map (fun i => (i.zero, i.size, i.bytes)) = some (some z, s, bytes)) (hzs : z.cells.size = s) (hsz : 0 < s)
    {A : Option Addr} {n c : Nat} {xs : List Value} (hs : a.eval sx = .slice A n c) (hown : w.ownsRow base e s (.slice A n c) n xs)
    {lo m d : Nat} {B : Option Addr} {ys : List Value} (hx : a.eval xx = .slice B m d) (hB : Sees w lo s B m ys) (h1 : ys.all Value.oneCell' = true)
    (hn : n ≤ 1000000000) (hm : m ≤ 1000000000) (hby : bytes ≤ 1000) (hbase : base ≤ w.heap.size)
    (h : ∀ (A' : Option Addr) (c' : Nat) (w' : World), w'.ownsRow base e s (.slice A' (n + m) c') (n + m) (xs ++ ys) → Only (OwnB A) w w' → Below base w w' → (∀ b, OwnB A' b → OwnB A b ∨ w.heap.size ≤ b) → K (a.put o.dst (.slice A' (n + m) c')) w') : if Region.wanted o (yielded ops a.tmps) = true then Oper.wp P o a w K Q else E := by
  have hw : Region.wanted o (yielded ops a.tmps) = true := by simp [Region.wanted, hgd]
  rw [if_pos hw]
  exact wp_cat sx xx t ho ht hi hzs hsz hs hown hx hB h1 hn hm hby hbase h

end Go.Proofs.YtkchdhmnomelkaaGreat
