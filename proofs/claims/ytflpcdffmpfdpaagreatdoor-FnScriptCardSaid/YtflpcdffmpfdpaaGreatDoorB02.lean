/- Joined texts of this proof: CardT, Own, Grid, Bfs, Copy, Nest2, Nest3, NewC, EntT, EntM, Text, LogL, ConT. -/
import Derived.Laws.AppendOwnNone
import Derived.Test.YtflpcdffmpfdpaaGreatDoorB01
set_option maxRecDepth 100000
set_option maxHeartbeats 8000000
namespace Go.Proofs.YtflpcdffmpfdpaaGreatDoor
open Go.RowKit
structure Card where
  number : Int
  start : Int
  finish : Int
  punches : List Punch
deriving DecidableEq
def cardSh : Sh Card := ⟨fun r => [(.int .i64 r.x.number), (.int .i64 r.x.start), (.int .i64 r.x.finish), (.slice r.A r.n r.c)], 4, 2, fun x => (x.punches.flatMap Punch.enc), by decide, fun _ => rfl⟩
def Card.cnt (x : Card) : Nat := x.punches.length
def Card.mark (k : Int) (x : Card) : Card := ⟨k, k + 1, k + 1 + 1, (jpm Punch.mark 2 (k + 1 + 1 + 1) x.punches.length)⟩
theorem SeesCard.elem {w : World} {lo n k : Nat} {A : Option Addr} {xs : List Card} (h : SeesN cardSh w lo A n xs) (hk : k < n) :
    ∃ (b off : Nat) (B : Option Addr) (m d : Nat), A = some ⟨b, off, none⟩ ∧ ∃ hkx : k < xs.length, w.cell? ⟨b, off + k * 4, none⟩ = some (.int .i64 xs[k].number) ∧ w.cell? ⟨b, off + k * 4 + 1, none⟩ = some (.int .i64 xs[k].start) ∧ w.cell? ⟨b, off + k * 4 + 2, none⟩ = some (.int .i64 xs[k].finish) ∧ w.cell? ⟨b, off + k * 4 + 3, none⟩ = some (.slice B m d) ∧ Sees w lo 2 B m (xs[k].punches.flatMap Punch.enc) := by
  obtain ⟨rs, rfl, h2, h3⟩ := h
  obtain ⟨b, off, rfl, hkx, c0, c1, c2, c3⟩ := Sees.elem4 (enc := cardSh.enc) h2 (fun _ => rfl) hk
  have hx : (rs.map Hd.x)[k]'(by simpa using hkx) = rs[k].x := by simp
  refine ⟨b, off, rs[k].A, rs[k].n, rs[k].c, rfl, by simpa using hkx, ?_, ?_, ?_, ?_, ?_⟩
  · rw [c0, hx]
  · rw [c1, hx]
  · rw [c2, hx]
  · rw [c3]
  · rw [hx]; exact h3 rs[k] (List.getElem_mem hkx)
theorem jln {P : Program} {f : FuncId} {args : Array Value} {w : World} {n : Nat} {v : Value} (h : Calls P f args (w.drewN n) fun e w' => e = .returned v ∧ Quiet (w.drewN n) w') : Calls P f args (w.drewN n) fun e w'' => e = .returned v ∧ ∃ m, w'' = w.drewN m :=
  h.mono fun _ _ ⟨he, q, hq⟩ => ⟨he, n + q, by rw [hq, World.drewN_drewN]⟩
theorem ja5 {w : World} {g : Nat} (t s : Nat) (h : w.heap.size = g) : (w.alloc (.cells #[] t)).ownsRow g t s (.slice (some ⟨g, 0, none⟩) 0 0) 0 [] := h ▸ ja4 w t s
theorem jcj {w : World} {base e s n c g : Nat} {A : Option Addr} {cs : List Value} (h : w.ownsRow base e s (.slice A n c) n cs) (hg : g < base) : ¬ jaj A g := fun hb => by
  have := (h.lt g (jdg.2 hb)).1
  omega
theorem jbc {w w' : World} {base t s n c : Nat} {A : Option Addr} {cs : List Value} {T : Nat → Prop} (h : w.ownsRow base t s (.slice A n c) n cs) (ho : Only T w w') (hS : ∀ b, jaj A b → ¬ T b) : w'.ownsRow base t s (.slice A n c) n cs := by
  rcases jby h with ⟨rfl, rfl, rfl, rfl⟩ | ⟨g, cur, rfl, h1, h2, h3, h4, h5, h6⟩
  · exact World.ownsRow_nil _ _ _ _
  · exact jci h1 (h2.only ho (hS g rfl)) h3 h4 h5 h6
theorem jai {w : World} {base t s n c b : Nat} {A : Option Addr} {cs : List Value} (h : w.ownsRow base t s (.slice A n c) n cs) (hb : jaj A b) : base ≤ b ∧ b < w.heap.size := h.lt b (jdg.2 hb)
theorem jc5 {S : Nat → Prop} {w w' : World} {b o : Nat} (h : Only S w w') (hS : ¬ S b) (hb : b < w.heap.size) : w'.cell? ⟨b, o, none⟩ = w.cell? ⟨b, o, none⟩ := World.cell?_of_block (h.block b hb hS)
def jjy (w : World) (R : List Int) (e : Ending) (w' : World) : Prop :=
  ∃ A c, e = .returned (.slice A R.length c) ∧ w'.ownsRow w.heap.size 3 1 (.slice A R.length c) R.length (jb4 R) ∧ Below w.heap.size w w'
theorem jiz {P : Program} {w : World} (base : Nat) (t ty e : TypeId) (i : TypeInfo) (size : Nat) (ht : P.underlying t = some (.slice e)) (hi : P.info? e = some i)
    (v : Value) (n : Nat) (xs : List Value) (hown : w.ownsRow base e size v n xs) (B : Option Addr) (d : Nat) :
    (Builtin.append_ #[t, t] ty #[v, .slice B 0 d]).run P w = .ok v w := by
  rcases hown.2 with ⟨rfl, rfl⟩ | ⟨g, cap, cur, rfl, _, _, hnc, _⟩
  · cases B <;> simp [Builtin.append_, run_underlying ht, sizeOf, typeInfo, hi, Builtin.lenOf, Builtin.firstCells, loadCells, loadCellsFrom]
  · cases B <;> simp [Builtin.append_, run_underlying ht, sizeOf, typeInfo, hi, Builtin.lenOf, Builtin.firstCells, hnc, storeCells, loadCells, loadCellsFrom]
theorem jqk {P : Program} {w : World} {o : Oper} {a : Act} {K : Act → World → Prop} {Q : Exit → Act → World → Prop} (sx xx : Operand) (t : TypeId)
    (ho : o.op = .call { callee := .builtin .append, args := #[sx, xx], argTypes := #[t, t] })
    {base : Nat} {e : TypeId} {z : Value} {s bytes : Nat} (ht : P.underlying t = some (.slice e)) (hi : (P.info? e).map (fun i => (i.zero, i.size, i.bytes)) = some (some z, s, bytes)) (hzs : z.cells.size = s) (hsz : 0 < s)
    {A : Option Addr} {n c : Nat} {xs : List Value} (hs : a.eval sx = .slice A n c) (hown : w.ownsRow base e s (.slice A n c) n xs)
    {lo m d : Nat} {B : Option Addr} {ys : List Value} (hx : a.eval xx = .slice B m d) (hB : Sees w lo s B m ys) (h1 : ys.all Value.oneCell' = true)
    (hn : n ≤ 1000000000) (hm : m ≤ 1000000000) (hby : bytes ≤ 1000) (hbase : base ≤ w.heap.size)
    (h : ∀ (A' : Option Addr) (c' : Nat) (w' : World), w'.ownsRow base e s (.slice A' (n + m) c') (n + m) (xs ++ ys) → Only (jaj A) w w' → Below base w w' → (∀ b, jaj A' b → jaj A b ∨ w.heap.size ≤ b) → K (a.put o.dst (.slice A' (n + m) c')) w') : Oper.wp P o a w K Q := by
  obtain ⟨i0, hi, hz0, hz1, hz2⟩ := info_parts hi
  rcases Nat.eq_zero_or_pos m with rfl | hm0
  · have hys : ys = [] := List.eq_nil_of_length_eq_zero (by rw [hB.len]; simp)
    subst hys
    have h2 := h A c w (by simpa using hown) (Only.refl _ _) (Below.refl _ _) (fun b hb => .inl hb)
    have hrun := jiz (P := P) (w := w) base t o.type e i0 s ht hi _ n xs hown B d
    unfold Oper.wp
    rw [Nat.add_zero] at h2
    simp [execOp, ho, resolve, invoke, builtin, hs, hx, hrun, Result.andThen]
    exact h2
  · obtain ⟨b, off, rfl, _, _, hl⟩ := hB.at' hm0
    refine wp_append_lies w sx xx t ho base e i0 z s bytes ht hi hz0 hz1 hz2 hzs hsz _ n xs hs hown ⟨b, off, none⟩ m d ys hx hB.len (fun j u hu => ?_) (List.all_eq_true.1 h1) hm0 (by simp only [maxLen]; omega) ?_ hbase _ rfl (fun g cap w' h2 h3 h4 _ => h _ _ w' h2 ?_ ?_ ?_)
    · have hadd : (⟨b, off, none⟩ : Addr).add j = ⟨b, off + j, none⟩ := by unfold Addr.add; split <;> simp_all
      rw [hadd]; exact hl j u hu
    · exact Nat.le_trans (Nat.mul_le_mul (show n + m ≤ 2000000000 by omega) hby) (by decide)
    · exact ⟨h3.os, h3.tape, h3.output, h3.size, fun k hk hS => h3.block k hk (fun e => hS (jdg.1 e.symm))⟩
    · exact (Below.refl base w).grown h3 hbase (fun k hk => (hown.lt k hk).1)
    · intro b' hb'
      have hb'' : g = b' := by simpa [jaj, Value.ownBlock] using hb'
      subst hb''
      rcases h4 with h4 | h4
      · exact .inl (jdg.1 h4)
      · exact .inr (by omega)
theorem jj0 {P : Program} {w : World} {ops : Array Oper} {rest : List Oper} {o : Oper} {a : Act} {Q : Exit → Act → World → Prop} (hgd : o.guard = none) (sx xx : Operand) (t : TypeId)
    (ho : o.op = .call { callee := .builtin .append, args := #[sx, xx], argTypes := #[t, t] })
    {base : Nat} {e : TypeId} {z : Value} {s bytes : Nat} (ht : P.underlying t = some (.slice e)) (hi : (P.info? e).map (fun i => (i.zero, i.size, i.bytes)) = some (some z, s, bytes)) (hzs : z.cells.size = s) (hsz : 0 < s)
    {A : Option Addr} {n c : Nat} {xs : List Value} (hs : a.eval sx = .slice A n c) (hown : w.ownsRow base e s (.slice A n c) n xs)
    {lo m d : Nat} {B : Option Addr} {ys : List Value} (hx : a.eval xx = .slice B m d) (hB : Sees w lo s B m ys) (h1 : ys.all Value.oneCell' = true)
    (hn : n ≤ 1000000000) (hm : m ≤ 1000000000) (hby : bytes ≤ 1000) (hbase : base ≤ w.heap.size)
    (h : ∀ (A' : Option Addr) (c' : Nat) (w' : World), w'.ownsRow base e s (.slice A' (n + m) c') (n + m) (xs ++ ys) → Only (jaj A) w w' → Below base w w' → (∀ b, jaj A' b → jaj A b ∨ w.heap.size ≤ b) → wpList P ops Q rest (a.put o.dst (.slice A' (n + m) c')) w') : wpList P ops Q (o :: rest) a w :=
  wpList_plain hgd fun _ hK => jqk sx xx t ho ht hi hzs hsz hs hown hx hB h1 hn hm hby hbase fun A' c' w' h2 h3 h4 h5 => hK _ _ (h A' c' w' h2 h3 h4 h5)
theorem jas {P : Program} {w : World} {ops : Array Oper} {o : Oper} {a : Act} {K : Act → World → Prop} {Q : Exit → Act → World → Prop} {E : Prop} (hgd : o.guard = none) (sx xx : Operand) (t : TypeId)
    (ho : o.op = .call { callee := .builtin .append, args := #[sx, xx], argTypes := #[t, t] })
    {base : Nat} {e : TypeId} {z : Value} {s bytes : Nat} (ht : P.underlying t = some (.slice e)) (hi : (P.info? e).map (fun i => (i.zero, i.size, i.bytes)) = some (some z, s, bytes)) (hzs : z.cells.size = s) (hsz : 0 < s)
    {A : Option Addr} {n c : Nat} {xs : List Value} (hs : a.eval sx = .slice A n c) (hown : w.ownsRow base e s (.slice A n c) n xs)
    {lo m d : Nat} {B : Option Addr} {ys : List Value} (hx : a.eval xx = .slice B m d) (hB : Sees w lo s B m ys) (h1 : ys.all Value.oneCell' = true)
    (hn : n ≤ 1000000000) (hm : m ≤ 1000000000) (hby : bytes ≤ 1000) (hbase : base ≤ w.heap.size)
    (h : ∀ (A' : Option Addr) (c' : Nat) (w' : World), w'.ownsRow base e s (.slice A' (n + m) c') (n + m) (xs ++ ys) → Only (jaj A) w w' → Below base w w' → (∀ b, jaj A' b → jaj A b ∨ w.heap.size ≤ b) → K (a.put o.dst (.slice A' (n + m) c')) w') : if Region.wanted o (yielded ops a.tmps) = true then Oper.wp P o a w K Q else E := by
  have hw : Region.wanted o (yielded ops a.tmps) = true := by simp [Region.wanted, hgd]
  rw [if_pos hw]
  exact jqk sx xx t ho ht hi hzs hsz hs hown hx hB h1 hn hm hby hbase h
end Go.Proofs.YtflpcdffmpfdpaaGreatDoor
namespace Go.Proofs.YtflpcdffmpfdpaaGreatDoor
end Go.Proofs.YtflpcdffmpfdpaaGreatDoor
namespace Go.Proofs.YtflpcdffmpfdpaaGreatDoor
end Go.Proofs.YtflpcdffmpfdpaaGreatDoor
namespace Go.Proofs.YtflpcdffmpfdpaaGreatDoor
open Go.RowKit

section
variable {α : Type} {sh : Sh α} {w w' : World} {S : Nat → Prop} {n c t ti g : Nat} {A : Option Addr} {rs : List (Hd α)} {xs : List α}
theorem MineR.count (h : MineR sh w S t ti A n c rs) : rs.length = n := h.outer.sees.count sh.pos sh.len
theorem MineR.next (h : MineR sh w S t ti A n c rs) (hb : Below w.heap.size w w') : MineR sh w' S t ti A n c rs := ⟨h.outer.next hb, h.inners.next hb, h.apart⟩
theorem MineR.wide {T : Nat → Prop} (h : MineR sh w S t ti A n c rs) (hS : ∀ b, S b → T b) : MineR sh w T t ti A n c rs := ⟨h.outer.wide hS, h.inners.wide hS, h.apart⟩
theorem MineR.only {T : Nat → Prop} (h : MineR sh w S t ti A n c rs) (ho : Only T w w') (hS : ∀ b, S b → T b → False) : MineR sh w' S t ti A n c rs := ⟨h.outer.only ho hS, h.inners.only ho hS, h.apart⟩
theorem MineR.made (h : MineR sh w S t ti A n c rs) : MineN sh w S t ti A n c (rs.map Hd.x) := ⟨rs, rfl, h⟩
theorem MineR.sees (h : MineR sh w S t ti A n c rs) : SeesN sh w 0 A n (rs.map Hd.x) := h.made.sees
theorem MineR.block (h : MineR sh w S t ti A n c rs) (hn : 0 < n) : ∃ (g : Nat) (cur : List Value), A = some ⟨g, 0, none⟩ ∧ S g ∧ Blk w g t cur ∧ cur.length = c * sh.s ∧ n * sh.s ≤ cur.length ∧ ∀ (k j : Nat) (hk : k < rs.length), j < sh.s → cur[k * sh.s + j]? = (sh.enc rs[k])[j]? := by
  have hl := h.count
  rcases jby h.outer.own with ⟨_, h0, _, _⟩ | ⟨g, cur, rfl, _, hB, hcl, hnc, _, htk⟩
  · omega
  · refine ⟨g, cur, rfl, h.outer.top g rfl, hB, hcl, by rw [hcl]; exact Nat.mul_le_mul_right _ hnc, fun k j hk hj => ?_⟩
    have h1 := jit (sh := sh) rs k j hk hj
    have h2 : k * sh.s + j < n * sh.s := by
      have : (k + 1) * sh.s ≤ n * sh.s := Nat.mul_le_mul_right _ (by omega)
      rw [Nat.succ_mul] at this
      omega
    rw [← h1, ← htk, List.getElem?_take, if_pos h2]
theorem MineR.turn {cur cs' : List Value} {k : Nat} (h : MineR sh w S t ti (some ⟨g, 0, none⟩) n c rs) (hB : Blk w g t cur) (hk : k < rs.length) (y : α) (hy : sh.inner y = sh.inner rs[k].x)
    (ho : Only (fun b => b = g) w w') (hB' : Blk w' g t cs') (hl : cs'.length = cur.length) (hin : ∀ j, j < sh.s → cs'[k * sh.s + j]? = (sh.enc ⟨y, rs[k].A, rs[k].n, rs[k].c⟩)[j]?) (hout : ∀ j, ¬ (k * sh.s ≤ j ∧ j < k * sh.s + sh.s) → cs'[j]? = cur[j]?) :
    MineR sh w' S t ti (some ⟨g, 0, none⟩) n c (rs.set k ⟨y, rs[k].A, rs[k].n, rs[k].c⟩) := by
  have hlen := h.count
  rcases jby h.outer.own with ⟨h0, _⟩ | ⟨g', cur', e, _, hB2, hcl, hnc, hcm, htk⟩
  · cases h0
  · injection e with e
    injection e with e1 _ _
    subst e1
    have ec : cur' = cur := by
      have h3 := hB.symm.trans hB2
      simp only [Option.some.injEq, Obj.cells.injEq, and_true] at h3
      exact (List.toArray_inj h3).symm
    subst ec
    have hin' := h.inners.onlyA ho (fun r hr b h1 h2 => h.apart r hr b h1 (by simp [jaj, Value.ownBlock]; exact h2.symm))
    refine ⟨⟨jci (Nat.zero_le _) hB' (hl.trans hcl) hnc hcm ?_, h.outer.top⟩, hin'.set hk y (Only.refl _ _) ?_, fun r hr b hb hb2 => ?_⟩
    · rw [← hlen] at htk ⊢
      exact jic hk _ htk hin hout
    · have := (hin'.each rs[k] (List.getElem_mem hk)).exact_
      rw [hy]; exact this
    · rcases List.mem_or_eq_of_mem_set hr with hr | rfl
      · exact h.apart r hr b hb hb2
      · exact h.apart rs[k] (List.getElem_mem hk) b hb hb2
end

end Go.Proofs.YtflpcdffmpfdpaaGreatDoor
namespace Go.Proofs.YtflpcdffmpfdpaaGreatDoor
open Go.RowKit

section
variable {α : Type} {sh : Sh α} {w w1 w2 w3 w' : World} {S : Nat → Prop} {n c t ti g : Nat} {A : Option Addr} {rs : List (Hd α)} {xs : List α}
theorem Mine.inn {B t s n c : Nat} {A : Option Addr} {cs : List Value} (h : Mine w (fun b => B ≤ b) t s A n c cs) : Mine w (In B w.heap.size) t s A n c cs := ⟨h.own, fun b hb => ⟨h.top b hb, h.lt b hb⟩⟩
theorem MineR.inn {B : Nat} (h : MineR sh w (fun b => B ≤ b) t ti A n c rs) : MineR sh w (In B w.heap.size) t ti A n c rs :=
  ⟨h.outer.inn, ⟨fun r hr => (h.inners.each r hr).inn, h.inners.pair⟩, h.apart⟩
theorem jdr {B g g0 : Nat} {D : Nat → Prop} {A2 B1 : Option Addr} {m d : Nat} {x : α}
    (hin : Inners sh w1 (In B g) ti rs) (hap : ∀ r ∈ rs, ∀ b, jaj r.A b → ¬ jaj A b) (hg : ∀ b, jaj A b → b < g)
    (ho : w1.ownsRow g0 ti sh.is (.slice B1 m d) m (sh.inner x)) (hD : ∀ b, D b → g ≤ b ∧ b < g0) (hg0 : g ≤ g0) (h2 : Only D w1 w2) (h3 : Only (jaj A) w2 w3) (hat : ∀ b, jaj A2 b → jaj A b ∨ w2.heap.size ≤ b) (hB : B ≤ g) (hg1 : g ≤ w1.heap.size) :
    Inners sh w3 (In B w3.heap.size) ti (rs ++ [⟨x, B1, m, d⟩]) ∧ ∀ r ∈ rs ++ [(⟨x, B1, m, d⟩ : Hd α)], ∀ b, jaj r.A b → ¬ jaj A2 b := by
  have z2 := h2.size
  have z3 := h3.size
  have i3 := (hin.only h2 (fun b h4 h5 => by have := h4.2; have := hD b h5; omega)).onlyA h3 hap
  have m2 : Mine w3 (In g0 w1.heap.size) ti sh.is B1 m d (sh.inner x) := ((Mine.of ho).only h2 (fun b h4 h5 => by have := h4.1; have := hD b h5; omega)).only h3 (fun b h4 h5 => by have := h4.1; have := hg b h5; omega)
  refine ⟨(i3.snoc m2 (fun b h4 h5 => by have := h4.2; have := h5.1; omega)).wide fun b h4 => ?_, fun r hr b hb hb2 => ?_⟩
  · rcases h4 with h4 | h4
    · exact ⟨h4.1, by have := h4.2; omega⟩
    · exact ⟨by have := h4.1; omega, by have := h4.2; omega⟩
  · rcases List.mem_append.1 hr with hr | hr
    · have h5 := (hin.each r hr).top b hb
      rcases hat b hb2 with h6 | h6
      · exact hap r hr b hb h6
      · have := h5.2; omega
    · obtain rfl := List.mem_singleton.1 hr
      have h5 := jai ho hb
      rcases hat b hb2 with h6 | h6
      · have := hg b h6; omega
      · omega
theorem ji9 {β γ : Type} (f : β → List γ) : ∀ (l : List β) (k : Nat) (y : β) (hk : k < l.length), f y = f l[k] → (l.set k y).flatMap f = l.flatMap f
  | [], _, _, hk, _ => absurd hk (by simp)
  | x :: l, 0, y, _, h => by simp only [List.set_cons_zero, List.flatMap_cons]; rw [h]; rfl
  | x :: l, k + 1, y, hk, h => by simp only [List.set_cons_succ, List.flatMap_cons]; rw [ji9 f l k y (by simpa using hk) (by simpa using h)]
theorem MineR.within {k : Nat} (h : MineR sh w S t ti A n c rs) (hk : k < rs.length) (y : α) (he : sh.enc ⟨y, rs[k].A, rs[k].n, rs[k].c⟩ = sh.enc rs[k]) (ho : Only (jaj rs[k].A) w w') (hm : Mine w' (jaj rs[k].A) ti sh.is rs[k].A rs[k].n rs[k].c (sh.inner y)) :
    MineR sh w' S t ti A n c (rs.set k ⟨y, rs[k].A, rs[k].n, rs[k].c⟩) := by
  refine ⟨?_, h.inners.set hk y ho hm, fun r hr b hb hb2 => ?_⟩
  · rw [ji9 _ _ _ _ hk he]
    exact (h.outer.exact_.only ho (fun b h1 h2 => h.apart rs[k] (List.getElem_mem hk) b h2 h1)).wide fun b hb => h.outer.top b hb
  · rcases List.mem_or_eq_of_mem_set hr with hr | rfl
    · exact h.apart r hr b hb hb2
    · exact h.apart rs[k] (List.getElem_mem hk) b hb hb2
theorem MineR.swap {cur cs' : List Value} {k : Nat} {r : Hd α} {D : Nat → Prop} (h : MineR sh w S t ti (some ⟨g, 0, none⟩) n c rs) (hB : Blk w g t cur) (hk : k < rs.length)
    (ho : Only (fun b => b = g) w w') (hB' : Blk w' g t cs') (hl : cs'.length = cur.length) (hin : ∀ j, j < sh.s → cs'[k * sh.s + j]? = (sh.enc r)[j]?) (hout : ∀ j, ¬ (k * sh.s ≤ j ∧ j < k * sh.s + sh.s) → cs'[j]? = cur[j]?)
    (hr : Mine w' D ti sh.is r.A r.n r.c (sh.inner r.x)) (hD : ∀ b, D b → S b) (hDg : ¬ D g) (hDi : ∀ r' ∈ rs, ∀ b, jaj r'.A b → ¬ D b) :
    MineR sh w' S t ti (some ⟨g, 0, none⟩) n c (rs.set k r) := by
  have hlen := h.count
  rcases jby h.outer.own with ⟨h0, _⟩ | ⟨g', cur', e, _, hB2, hcl, hnc, hcm, htk⟩
  · cases h0
  · injection e with e
    injection e with e1 _ _
    subst e1
    have ec : cur' = cur := by
      have h3 := hB.symm.trans hB2
      simp only [Option.some.injEq, Obj.cells.injEq, and_true] at h3
      exact (List.toArray_inj h3).symm
    subst ec
    have hin' := h.inners.onlyA ho (fun r hr b h1 h2 => h.apart r hr b h1 (by simp [jaj, Value.ownBlock]; exact h2.symm))
    have hp := List.pairwise_iff_getElem.1 h.inners.pair
    refine ⟨⟨jci (Nat.zero_le _) hB' (hl.trans hcl) hnc hcm ?_, h.outer.top⟩, ⟨fun r' hr' => ?_, List.pairwise_iff_getElem.2 fun i j hi hj hij b hb hb' => ?_⟩, fun r' hr' b hb hb2 => ?_⟩
    · rw [← hlen] at htk ⊢
      exact jic hk _ htk hin hout
    · rcases List.mem_or_eq_of_mem_set hr' with hr' | rfl
      · exact hin'.each r' hr'
      · exact hr.wide hD
    · rw [List.length_set] at hi hj
      rw [List.getElem_set] at hb hb'
      by_cases hki : k = i
      · subst hki
        rw [if_pos rfl] at hb
        rw [if_neg (by omega)] at hb'
        exact hDi rs[j] (List.getElem_mem hj) b hb' (hr.top b hb)
      · rw [if_neg hki] at hb
        by_cases hkj : k = j
        · subst hkj
          rw [if_pos rfl] at hb'
          exact hDi rs[i] (List.getElem_mem hi) b hb (hr.top b hb')
        · rw [if_neg hkj] at hb'
          exact hp i j hi hj hij b hb hb'
    · rcases List.mem_or_eq_of_mem_set hr' with hr' | rfl
      · exact h.apart r' hr' b hb hb2
      · simp only [jaj, Value.ownBlock, Option.some.injEq] at hb2
        subst hb2
        exact hDg (hr.top _ hb)
end

end Go.Proofs.YtflpcdffmpfdpaaGreatDoor
namespace Go.Proofs.YtflpcdffmpfdpaaGreatDoor
open Go.RowKit
theorem jk9 (xs : List Punch) : (xs.flatMap Punch.enc).all Value.oneCell' = true := by
  rw [List.all_eq_true]
  intro v hv
  obtain ⟨x, _, h⟩ := List.mem_flatMap.1 hv
  simp only [Punch.enc, List.mem_cons, List.not_mem_nil, or_false] at h
  rcases h with rfl | rfl <;> rfl
def jk1 (w : World) (x : Card) (n : Nat) (e : Ending) (w' : World) : Prop :=
  ∃ B d, e = .returned (.agg #[x.number, x.start, x.finish, .slice B n d]) ∧ w'.ownsRow w.heap.size 188 2 (.slice B n d) n (x.punches.flatMap Punch.enc) ∧ Below w.heap.size w w'
theorem ji3 (A : Option Addr) (n c lo : Nat) (x : Card) (w : World) (hx : Sees w lo 2 A n (x.punches.flatMap Punch.enc)) (hn : n ≤ 1048576) :
    Calls Tryz.prog 131 #[.agg #[x.number, x.start, x.finish, .slice A n c]] w (jk1 w x n) := by
  have K0 := nB3 w (.cells #[x.number, x.start, x.finish, .slice A n c] 106) (.cells #[.int .i64 0, .int .i64 0, .int .i64 0, .slice none 0 0] 106) (.cells #[] 188)
  have P0 := nPb w [x.number, x.start, x.finish, .slice A n c] 106 (.cells #[.int .i64 0, .int .i64 0, .int .i64 0, .slice none 0 0] 106) (.cells #[] 188)
  have R0 := nQa w (.cells #[x.number, x.start, x.finish, .slice A n c] 106) [.int .i64 0, .int .i64 0, .int .i64 0, .slice none 0 0] 106 (.cells #[] 188)
  have hown := ja5 (w := ((w.alloc (.cells #[x.number, x.start, x.finish, .slice A n c] 106)).alloc (.cells #[.int .i64 0, .int .i64 0, .int .i64 0, .slice none 0 0] 106))) (g := w.heap.size + 1 + 1) 188 2 (by simp)
  have hx0 := hx.next K0
  have z0 : (((w.alloc (.cells #[x.number, x.start, x.finish, .slice A n c] 106)).alloc (.cells #[.int .i64 0, .int .i64 0, .int .i64 0, .slice none 0 0] 106)).alloc (.cells #[] 188)).heap.size = w.heap.size + 1 + 1 + 1 := by simp
  have Z0 := Lib.hid z0
  clear z0
  go_enter Tryz.func131, Tryz.ntmps131
  go_wp2_with (at_builtin; go_loud (refine jj0 rfl _ _ _ rfl Tryz.underlying104 jbg rfl (by decide) rfl hown rfl hx0 (jk9 _) (by omega) (by omega) (by decide) (by have := Z0.out; omega) ?_); intro A1 c1 w1 o1 h1 b1 q1; have P1 := P0.only h1 (jcj hown (by omega)); have R1 := R0.only h1 (jcj hown (by omega)); have pc := P1.cell; have pf := P1.frozen; have rc := R1.cell; have rf := R1.frozen)
  simp only [Nat.zero_add, List.nil_append] at o1 ⊢
  have K1 : Below w.heap.size w w1 := K0.trans (b1.mono (by omega))
  have RF := ((((R1.far (p := ⟨w.heap.size, 3, none⟩) (by simp) (.slice A1 n c1)).set_ 0 (.int .i64 x.number)).set_ 1 (.int .i64 x.start)).set_ 2 (.int .i64 x.finish)).set_ 3 (.slice A1 n c1)
  have E := (((((Only.refl (fun b => b = w.heap.size ∨ b = w.heap.size + 1) w1).setCell (p := ⟨w.heap.size, 3, none⟩) (.inl rfl) (.slice A1 n c1)).setCell (p := ⟨w.heap.size + 1, 0, none⟩) (.inr rfl) (.int .i64 x.number)).setCell (p := ⟨w.heap.size + 1, 1, none⟩) (.inr rfl) (.int .i64 x.start)).setCell (p := ⟨w.heap.size + 1, 2, none⟩) (.inr rfl) (.int .i64 x.finish)).setCell (p := ⟨w.heap.size + 1, 3, none⟩) (.inr rfl) (.slice A1 n c1)
  have oF := jbc o1 E (fun b hb h => by have := (jai o1 hb).1; omega)
  have zF := E.size
  have z1 := K1.size
  refine bodyPost_ret (results_cell_row rfl _ _ (w.heap.size + 1) _ _ (0, 0) _ rfl RF Tryz.underlying106 rfl (by kernel_rfl)) rfl ⟨A1, c1, rfl, jax oF (by omega), ?_⟩
  exact K1.trans (E.below (fun k hk => by rcases hk with hk | hk <;> omega) (by omega))
theorem jgu (A : Option Addr) (n c lo : Nat) (x : Card) (w : World) (hx : Sees w lo 2 A n (x.punches.flatMap Punch.enc)) (hn : n ≤ 1048576) :
    Calls Tryz.prog 118 #[.agg #[x.number, x.start, x.finish, .slice A n c]] w (jk1 w x n) := by
  have K0 : Below w.heap.size w (((w.alloc (.cells #[x.number, x.start, x.finish, .slice A n c] 106)).alloc (.cells #[.int .i64 0, .int .i64 0, .int .i64 0, .slice none 0 0] 106)).alloc (.cells #[] 188)).drew := ja3 ((((Below.refl w.heap.size w).alloc (Nat.le_refl _) _).alloc (by simp) _).alloc (by simp; omega) _) (Quiet.one _)
  have P0 : Blk (((w.alloc (.cells #[x.number, x.start, x.finish, .slice A n c] 106)).alloc (.cells #[.int .i64 0, .int .i64 0, .int .i64 0, .slice none 0 0] 106)).alloc (.cells #[] 188)).drew w.heap.size 106 [.int .i64 x.number, .int .i64 x.start, .int .i64 x.finish, .slice A n c] := (((Blk.at_ rfl).alloc _).alloc _ : Blk (((w.alloc (.cells #[x.number, x.start, x.finish, .slice A n c] 106)).alloc (.cells #[.int .i64 0, .int .i64 0, .int .i64 0, .slice none 0 0] 106)).alloc (.cells #[] 188)) w.heap.size 106 [.int .i64 x.number, .int .i64 x.start, .int .i64 x.finish, .slice A n c])
  have R0 : Blk (((w.alloc (.cells #[x.number, x.start, x.finish, .slice A n c] 106)).alloc (.cells #[.int .i64 0, .int .i64 0, .int .i64 0, .slice none 0 0] 106)).alloc (.cells #[] 188)).drew (w.heap.size + 1) 106 [.int .i64 0, .int .i64 0, .int .i64 0, .slice none 0 0] := ((Blk.at_ (by simp)).alloc _ : Blk (((w.alloc (.cells #[x.number, x.start, x.finish, .slice A n c] 106)).alloc (.cells #[.int .i64 0, .int .i64 0, .int .i64 0, .slice none 0 0] 106)).alloc (.cells #[] 188)) (w.heap.size + 1) 106 [.int .i64 0, .int .i64 0, .int .i64 0, .slice none 0 0])
  have hown := jad (ja5 (w := ((w.alloc (.cells #[x.number, x.start, x.finish, .slice A n c] 106)).alloc (.cells #[.int .i64 0, .int .i64 0, .int .i64 0, .slice none 0 0] 106))) (g := w.heap.size + 1 + 1) 188 2 (by simp)) ((Quiet.one _).below _)
  have hx0 := hx.next K0
  have z0 : (((w.alloc (.cells #[x.number, x.start, x.finish, .slice A n c] 106)).alloc (.cells #[.int .i64 0, .int .i64 0, .int .i64 0, .slice none 0 0] 106)).alloc (.cells #[] 188)).drew.heap.size = w.heap.size + 1 + 1 + 1 := by show (((w.alloc (.cells #[x.number, x.start, x.finish, .slice A n c] 106)).alloc (.cells #[.int .i64 0, .int .i64 0, .int .i64 0, .slice none 0 0] 106)).alloc (.cells #[] 188)).heap.size = _; simp
  have Z0 := Lib.hid z0
  have pc0 := P0.cell
  clear z0
  go_enter Tryz.func118, Tryz.ntmps118
  go_wp2_with fail
  refine wp_region_held_drew (S := fun w' => w'.cell? ⟨w.heap.size, 0, none⟩ = some (.int .i64 x.number) ∧ w'.cell? ⟨w.heap.size, 1, none⟩ = some (.int .i64 x.start) ∧ w'.cell? ⟨w.heap.size, 2, none⟩ = some (.int .i64 x.finish) ∧ w'.cell? ⟨w.heap.size, 3, none⟩ = some (.slice A n c)) (by kernel_rfl) (by (try dsimp only); go_keep) (fun hH => ?_)
  refine wQ 0 ?_
  refine wQ 1 ?_
  refine wQ 2 ?_
  refine wQ 3 ?_
  refine wQ 4 ?_
  refine wQ 5 ?_
  refine wQ 7 ?_
  refine wQ 8 ?_
  refine wR (rs := [6]) (by kernel_rfl) (by simp) ?_
  refine aC rfl (fun K hK => ?_) aN
  go_simp
  refine hK.out _ _ (by (try dsimp only); go_keep) (fun hH => ?_)
  clear hK K
  try simp only [Act.put, pX]
  refine wR (rs := [9]) (by kernel_rfl) (by simp) ?_
  refine aC rfl (fun K hK => ?_) aN
  refine jas rfl _ _ _ (by rfl) Tryz.underlying104 jbg rfl (by decide) (by rfl) hown (by rfl) (m := n) hx0 (jk9 _) (by omega) (by omega) (by decide) (by have := Z0.out; omega) ?_
  intro A1 c1 w1 o1 h1 b1 q1
  have P1 := P0.only h1 (jcj hown (by omega))
  have R1 := R0.only h1 (jcj hown (by omega))
  clear pc0
  have pc := P1.cell
  have rc := R1.cell
  have rf := R1.frozen
  simp only [Nat.zero_add, List.nil_append] at o1
  (try simp only [Nat.zero_add])
  refine hK.out _ _ (by (try dsimp only); go_keep) (fun hH => ?_)
  clear hK K
  try simp only [Act.put, pX]
  refine wQ 10 ?_
  refine wR (rs := [11]) (by kernel_rfl) (by simp) ?_
  refine aC rfl (fun K hK => ?_) aN
  go_simp
  refine hK.out _ _ (by (try dsimp only); go_keep) (fun hH => ?_)
  clear hK K
  try simp only [Act.put, pX]
  refine wD (by kernel_rfl) ?_ _
  go_wp2_with fail
  have K1 : Below w.heap.size w w1 := K0.trans (b1.mono (by omega))
  have RF := (((R1.set_ 0 (.int .i64 x.number)).set_ 1 (.int .i64 x.start)).set_ 2 (.int .i64 x.finish)).set_ 3 (.slice A1 n c1)
  have E := ((((Only.refl (fun b => b = w.heap.size + 1) w1).setCell (p := ⟨w.heap.size + 1, 0, none⟩) rfl (.int .i64 x.number)).setCell (p := ⟨w.heap.size + 1, 1, none⟩) rfl (.int .i64 x.start)).setCell (p := ⟨w.heap.size + 1, 2, none⟩) rfl (.int .i64 x.finish)).setCell (p := ⟨w.heap.size + 1, 3, none⟩) rfl (.slice A1 n c1)
  have oF := jbc o1 E (fun b hb h => by have := (jai o1 hb).1; omega)
  have zF := E.size
  have z1 := K1.size
  refine bodyPost_ret (results_cell_row rfl _ _ (w.heap.size + 1) _ _ (0, 0) _ rfl RF Tryz.underlying106 rfl (by kernel_rfl)) rfl ⟨A1, c1, rfl, jax oF (by omega), ?_⟩
  exact K1.trans (E.below (fun k hk => by omega) (by omega))
theorem Sees.elem5 {α : Type} {w : World} {lo n k : Nat} {A : Option Addr} {ds : List α} {enc : α → List Value} {f0 f1 f2 f3 f4 : α → Value} (h : Sees w lo 5 A n (ds.flatMap enc)) (he : ∀ x, enc x = [f0 x, f1 x, f2 x, f3 x, f4 x]) (hk : k < n) :
    ∃ b off, A = some ⟨b, off, none⟩ ∧ ∃ hx : k < ds.length, w.cell? ⟨b, off + k * 5, none⟩ = some (f0 ds[k]) ∧ w.cell? ⟨b, off + k * 5 + 1, none⟩ = some (f1 ds[k]) ∧ w.cell? ⟨b, off + k * 5 + 2, none⟩ = some (f2 ds[k]) ∧ w.cell? ⟨b, off + k * 5 + 3, none⟩ = some (f3 ds[k]) ∧ w.cell? ⟨b, off + k * 5 + 4, none⟩ = some (f4 ds[k]) := by
  obtain ⟨b, off, e, hx, hc⟩ := h.elem (by decide) (fun x => by rw [he]; rfl) hk
  exact ⟨b, off, e, hx, hc 0 _ (by rw [he]; rfl), hc 1 _ (by rw [he]; rfl), hc 2 _ (by rw [he]; rfl), hc 3 _ (by rw [he]; rfl), hc 4 _ (by rw [he]; rfl)⟩
structure Entrant where
  state : Int
  number : Int
  start : Int
  finish : Int
  punches : List Punch
deriving DecidableEq
def entrantSh : Sh Entrant := ⟨fun r => [(.int .i64 r.x.state), (.int .i64 r.x.number), (.int .i64 r.x.start), (.int .i64 r.x.finish), (.slice r.A r.n r.c)], 5, 2, fun x => (x.punches.flatMap Punch.enc), by decide, fun _ => rfl⟩
def Entrant.cnt (x : Entrant) : Nat := x.punches.length
def Entrant.mark (k : Int) (x : Entrant) : Entrant := ⟨k, k + 1, k + 1 + 1, k + 1 + 1 + 1, (jpm Punch.mark 2 (k + 1 + 1 + 1 + 1) x.punches.length)⟩
theorem jbd : (Tryz.prog.info? 108).map (fun i => (i.zero, i.size, i.bytes)) = some (some (.agg #[.int .i64 0, .int .i64 0, .int .i64 0, .int .i64 0, .slice none 0 0]), 5, 56) := by kernel_rfl
theorem SeesEntrant.elem {w : World} {lo n k : Nat} {A : Option Addr} {xs : List Entrant} (h : SeesN entrantSh w lo A n xs) (hk : k < n) :
    ∃ (b off : Nat) (B : Option Addr) (m d : Nat), A = some ⟨b, off, none⟩ ∧ ∃ hkx : k < xs.length, w.cell? ⟨b, off + k * 5, none⟩ = some (.int .i64 xs[k].state) ∧ w.cell? ⟨b, off + k * 5 + 1, none⟩ = some (.int .i64 xs[k].number) ∧ w.cell? ⟨b, off + k * 5 + 2, none⟩ = some (.int .i64 xs[k].start) ∧ w.cell? ⟨b, off + k * 5 + 3, none⟩ = some (.int .i64 xs[k].finish) ∧ w.cell? ⟨b, off + k * 5 + 4, none⟩ = some (.slice B m d) ∧ Sees w lo 2 B m (xs[k].punches.flatMap Punch.enc) := by
  obtain ⟨rs, rfl, h2, h3⟩ := h
  obtain ⟨b, off, rfl, hkx, c0, c1, c2, c3, c4⟩ := Sees.elem5 (enc := entrantSh.enc) h2 (fun _ => rfl) hk
  have hx : (rs.map Hd.x)[k]'(by simpa using hkx) = rs[k].x := by simp
  refine ⟨b, off, rs[k].A, rs[k].n, rs[k].c, rfl, by simpa using hkx, ?_, ?_, ?_, ?_, ?_, ?_⟩
  · rw [c0, hx]
  · rw [c1, hx]
  · rw [c2, hx]
  · rw [c3, hx]
  · rw [c4]
  · rw [hx]; exact h3 rs[k] (List.getElem_mem hkx)
def Entrant.card (x : Entrant) : Card := ⟨x.number, x.start, x.finish, x.punches⟩
theorem jlz {p : UInt8 → Bool} (s : ByteArray) (h : ∀ k (hk : k < s.size), p s[k] = true) : s.data.toList.all p = true := by
  rw [List.all_eq_true]
  intro x hx
  obtain ⟨k, hk, rfl⟩ := List.getElem_of_mem hx
  exact h k (by simpa using hk)
theorem jlt {p : UInt8 → Bool} (s : ByteArray) (k : Nat) (hk : k < s.size) (h : p s[k] = false) : s.data.toList.all p = false := by
  rw [List.all_eq_false]
  exact ⟨s[k], List.mem_of_getElem (i := k) (h := by simpa using hk) rfl, by simp [h]⟩
theorem jcc (a b : ByteArray) : (a.toList == b.toList) = decide (a = b) := by
  rw [Bool.eq_iff_iff, ByteArray.toList_eq, ByteArray.toList_eq]
  simp only [beq_iff_eq, decide_eq_true_eq]
  exact ⟨fun h => ByteArray.ext (Array.toList_inj.1 h), fun h => by rw [h]⟩
def digitS (k : Nat) : ByteArray := ⟨#[UInt8.ofNat (48 + k % 10)]⟩
def jql : Nat → Nat → ByteArray → ByteArray
  | 0, _, out => out
  | fuel + 1, k, out => if k = 0 then out else jql fuel (k / 10) (digitS k ++ out)
def jp7 (k : Int) : ByteArray := if k ≤ 0 then ⟨#[109, 48]⟩ else ⟨#[109]⟩ ++ jql 20 k.toNat ⟨#[]⟩
structure Log where
  durable : ByteArray
  pending : ByteArray
  count : Int
deriving DecidableEq
def Log.enc (x : Log) : List Value := [.string x.durable, .string x.pending, .int .i64 x.count]
def Log.upto (m : Nat) (x : Log) : Prop := x.durable.size ≤ m ∧ x.pending.size ≤ m
def Log.mark (k : Int) : Log := ⟨jp7 (k), jp7 (k + 1), k + 1 + 1⟩
end Go.Proofs.YtflpcdffmpfdpaaGreatDoor
