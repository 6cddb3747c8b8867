/- Nested slices in memory of a call's own: one element more, one element's slice turned or exchanged. No program is named here. -/
import Derived.Test.YtkchdhmnomelkaaGreatNest2
import Derived.Test.YtkchdhmnomelkaaGreatOwn
namespace Go.Proofs.YtkchdhmnomelkaaGreat
open Go.RowKit

section
variable {α : Type} {sh : Sh α} {w w1 w2 w3 w' : World} {S : Nat → Prop} {n c t ti g : Nat} {A : Option Addr} {rs : List (Hd α)} {xs : List α}
theorem Mine.inn {B t s n c : Nat} {A : Option Addr} {cs : List Value} (h : Mine w (fun b => B ≤ b) t s A n c cs) : Mine w (In B w.heap.size) t s A n c cs := ⟨h.own, fun b hb => ⟨h.top b hb, h.lt b hb⟩⟩
theorem MineR.inn {B : Nat} (h : MineR sh w (fun b => B ≤ b) t ti A n c rs) : MineR sh w (In B w.heap.size) t ti A n c rs :=
  ⟨h.outer.inn, ⟨fun r hr => (h.inners.each r hr).inn, h.inners.pair⟩, h.apart⟩
theorem MineR.from_ {B : Nat} (h : MineR sh w (In B w.heap.size) t ti A n c rs) : MineR sh w (fun b => B ≤ b) t ti A n c rs := h.wide fun _ hb => hb.1
/-- One element more: its slice in a block of its own, from g on; the outer slice grown. -/
theorem nest_snoc {B g g0 : Nat} {D : Nat → Prop} {A2 B1 : Option Addr} {m d : Nat} {x : α}
    (hin : Inners sh w1 (In B g) ti rs) (hap : ∀ r ∈ rs, ∀ b, OwnB r.A b → ¬ OwnB A b) (hg : ∀ b, OwnB A b → b < g)
    (ho : w1.ownsRow g0 ti sh.is (.slice B1 m d) m (sh.inner x)) (hD : ∀ b, D b → g ≤ b ∧ b < g0) (hg0 : g ≤ g0) (h2 : Only D w1 w2) (h3 : Only (OwnB A) w2 w3) (hat : ∀ b, OwnB A2 b → OwnB A b ∨ w2.heap.size ≤ b) (hB : B ≤ g) (hg1 : g ≤ w1.heap.size) :
    Inners sh w3 (In B w3.heap.size) ti (rs ++ [⟨x, B1, m, d⟩]) ∧ ∀ r ∈ rs ++ [(⟨x, B1, m, d⟩ : Hd α)], ∀ b, OwnB r.A b → ¬ OwnB A2 b := by
  have z2 := h2.size
  have z3 := h3.size
  have i3 := (hin.only h2 (fun b h4 h5 => by have := h4.2; have := hD b h5; omega)).onlyA h3 hap
  have m2 : Mine w3 (In g0 w1.heap.size) ti sh.is B1 m d (sh.inner x) := ((Mine.of ho).only h2 (fun b h4 h5 => by have := h4.1; have := hD b h5; omega)).only h3 (fun b h4 h5 => by have := h4.1; have := hg b h5; omega)
  refine ⟨(i3.snoc m2 (fun b h4 h5 => by have := h4.2; have := h5.1; omega)).wide fun b h4 => ?_, fun r hr b hb hb2 => ?_⟩
  · rcases h4 with h4 | h4
    · exact ⟨h4.1, by have := h4.2; omega⟩
    · exact ⟨by have := h4.1; omega, by have := h4.2; omega⟩
  · rcases List.mem_append.1 hr with hr | hr
    · have h5 := (hin.each r hr).top b hb
      rcases hat b hb2 with h6 | h6
      · exact hap r hr b hb h6
      · have := h5.2; omega
    · obtain rfl := List.mem_singleton.1 hr
      have h5 := own_top ho hb
      rcases hat b hb2 with h6 | h6
      · have := hg b h6; omega
      · omega
theorem set_flatMap {β γ : Type} (f : β → List γ) : ∀ (l : List β) (k : Nat) (y : β) (hk : k < l.length), f y = f l[k] → (l.set k y).flatMap f = l.flatMap f
  | [], _, _, hk, _ => absurd hk (by simp)
  | x :: l, 0, y, _, h => by simp only [List.set_cons_zero, List.flatMap_cons]; rw [h]; rfl
  | x :: l, k + 1, y, hk, h => by simp only [List.set_cons_succ, List.flatMap_cons]; rw [set_flatMap f l k y (by simpa using hk) (by simpa using h)]
/-- The cells of one element's slice have turned. -/
theorem MineR.within {k : Nat} (h : MineR sh w S t ti A n c rs) (hk : k < rs.length) (y : α) (he : sh.enc ⟨y, rs[k].A, rs[k].n, rs[k].c⟩ = sh.enc rs[k]) (ho : Only (OwnB rs[k].A) w w') (hm : Mine w' (OwnB rs[k].A) ti sh.is rs[k].A rs[k].n rs[k].c (sh.inner y)) :
    MineR sh w' S t ti A n c (rs.set k ⟨y, rs[k].A, rs[k].n, rs[k].c⟩) := by
  refine ⟨?_, h.inners.set hk y ho hm, fun r hr b hb hb2 => ?_⟩
  · rw [set_flatMap _ _ _ _ hk he]
    exact (h.outer.exact_.only ho (fun b h1 h2 => h.apart rs[k] (List.getElem_mem hk) b h2 h1)).wide fun b hb => h.outer.top b hb
  · rcases List.mem_or_eq_of_mem_set hr with hr | rfl
    · exact h.apart r hr b hb hb2
    · exact h.apart rs[k] (List.getElem_mem hk) b hb hb2
/-- One element's slice is exchanged for another one of the call's own, in a block of its own. -/
theorem MineR.swap {cur cs' : List Value} {k : Nat} {r : Hd α} {D : Nat → Prop} (h : MineR sh w S t ti (some ⟨g, 0, none⟩) n c rs) (hB : Blk w g t cur) (hk : k < rs.length)
    (ho : Only (fun b => b = g) w w') (hB' : Blk w' g t cs') (hl : cs'.length = cur.length) (hin : ∀ j, j < sh.s → cs'[k * sh.s + j]? = (sh.enc r)[j]?) (hout : ∀ j, ¬ (k * sh.s ≤ j ∧ j < k * sh.s + sh.s) → cs'[j]? = cur[j]?)
    (hr : Mine w' D ti sh.is r.A r.n r.c (sh.inner r.x)) (hD : ∀ b, D b → S b) (hDg : ¬ D g) (hDi : ∀ r' ∈ rs, ∀ b, OwnB r'.A b → ¬ D b) :
    MineR sh w' S t ti (some ⟨g, 0, none⟩) n c (rs.set k r) := by
  have hlen := h.count
  rcases own_open h.outer.own with ⟨h0, _⟩ | ⟨g', cur', e, _, hB2, hcl, hnc, hcm, htk⟩
  · cases h0
  · injection e with e
    injection e with e1 _ _
    subst e1
    have ec : cur' = cur := by
      have h3 := hB.symm.trans hB2
      simp only [Option.some.injEq, Obj.cells.injEq, and_true] at h3
      exact (List.toArray_inj h3).symm
    subst ec
    have hin' := h.inners.onlyA ho (fun r hr b h1 h2 => h.apart r hr b h1 (by simp [OwnB, Value.ownBlock]; exact h2.symm))
    have hp := List.pairwise_iff_getElem.1 h.inners.pair
    refine ⟨⟨own_shut (Nat.zero_le _) hB' (hl.trans hcl) hnc hcm ?_, h.outer.top⟩, ⟨fun r' hr' => ?_, List.pairwise_iff_getElem.2 fun i j hi hj hij b hb hb' => ?_⟩, fun r' hr' b hb hb2 => ?_⟩
    · rw [← hlen] at htk ⊢
      exact heads_set hk _ htk hin hout
    · rcases List.mem_or_eq_of_mem_set hr' with hr' | rfl
      · exact hin'.each r' hr'
      · exact hr.wide hD
    · rw [List.length_set] at hi hj
      rw [List.getElem_set] at hb hb'
      by_cases hki : k = i
      · subst hki
        rw [if_pos rfl] at hb
        rw [if_neg (by omega)] at hb'
        exact hDi rs[j] (List.getElem_mem hj) b hb' (hr.top b hb)
      · rw [if_neg hki] at hb
        by_cases hkj : k = j
        · subst hkj
          rw [if_pos rfl] at hb'
          exact hDi rs[i] (List.getElem_mem hi) b hb (hr.top b hb')
        · rw [if_neg hkj] at hb'
          exact hp i j hi hj hij b hb hb'
    · rcases List.mem_or_eq_of_mem_set hr' with hr' | rfl
      · exact h.apart r' hr' b hb hb2
      · simp only [OwnB, Value.ownBlock, Option.some.injEq] at hb2
        subst hb2
        exact hDg (hr.top _ hb)
end

end Go.Proofs.YtkchdhmnomelkaaGreat
