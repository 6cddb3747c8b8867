/- Nested slices in memory of a call's own: one element turned in place. No program is named here. -/
import Derived.Test.YtkchdhmnomelkaaGreatNest
namespace Go.Proofs.YtkchdhmnomelkaaGreat
open Go.RowKit

section
variable {α : Type} {sh : Sh α} {w w' : World} {S : Nat → Prop} {n c t ti g : Nat} {A : Option Addr} {rs : List (Hd α)} {xs : List α}
theorem MineR.count (h : MineR sh w S t ti A n c rs) : rs.length = n := h.outer.sees.count sh.pos sh.len
theorem MineR.next (h : MineR sh w S t ti A n c rs) (hb : Below w.heap.size w w') : MineR sh w' S t ti A n c rs := ⟨h.outer.next hb, h.inners.next hb, h.apart⟩
theorem MineR.wide {T : Nat → Prop} (h : MineR sh w S t ti A n c rs) (hS : ∀ b, S b → T b) : MineR sh w T t ti A n c rs := ⟨h.outer.wide hS, h.inners.wide hS, h.apart⟩
theorem MineR.only {T : Nat → Prop} (h : MineR sh w S t ti A n c rs) (ho : Only T w w') (hS : ∀ b, S b → T b → False) : MineR sh w' S t ti A n c rs := ⟨h.outer.only ho hS, h.inners.only ho hS, h.apart⟩
theorem MineR.made (h : MineR sh w S t ti A n c rs) : MineN sh w S t ti A n c (rs.map Hd.x) := ⟨rs, rfl, h⟩
theorem MineR.sees (h : MineR sh w S t ti A n c rs) : SeesN sh w 0 A n (rs.map Hd.x) := h.made.sees
/-- Its block is known whole. -/
theorem MineR.block (h : MineR sh w S t ti A n c rs) (hn : 0 < n) : ∃ (g : Nat) (cur : List Value), A = some ⟨g, 0, none⟩ ∧ S g ∧ Blk w g t cur ∧ cur.length = c * sh.s ∧ n * sh.s ≤ cur.length ∧ ∀ (k j : Nat) (hk : k < rs.length), j < sh.s → cur[k * sh.s + j]? = (sh.enc rs[k])[j]? := by
  have hl := h.count
  rcases own_open h.outer.own with ⟨_, h0, _, _⟩ | ⟨g, cur, rfl, _, hB, hcl, hnc, _, htk⟩
  · omega
  · refine ⟨g, cur, rfl, h.outer.top g rfl, hB, hcl, by rw [hcl]; exact Nat.mul_le_mul_right _ hnc, fun k j hk hj => ?_⟩
    have h1 := heads_get (sh := sh) rs k j hk hj
    have h2 : k * sh.s + j < n * sh.s := by
      have : (k + 1) * sh.s ≤ n * sh.s := Nat.mul_le_mul_right _ (by omega)
      rw [Nat.succ_mul] at this
      omega
    rw [← h1, ← htk, List.getElem?_take, if_pos h2]
/-- One element's cells have turned; its slice is as it was. -/
theorem MineR.turn {cur cs' : List Value} {k : Nat} (h : MineR sh w S t ti (some ⟨g, 0, none⟩) n c rs) (hB : Blk w g t cur) (hk : k < rs.length) (y : α) (hy : sh.inner y = sh.inner rs[k].x)
    (ho : Only (fun b => b = g) w w') (hB' : Blk w' g t cs') (hl : cs'.length = cur.length) (hin : ∀ j, j < sh.s → cs'[k * sh.s + j]? = (sh.enc ⟨y, rs[k].A, rs[k].n, rs[k].c⟩)[j]?) (hout : ∀ j, ¬ (k * sh.s ≤ j ∧ j < k * sh.s + sh.s) → cs'[j]? = cur[j]?) :
    MineR sh w' S t ti (some ⟨g, 0, none⟩) n c (rs.set k ⟨y, rs[k].A, rs[k].n, rs[k].c⟩) := by
  have hlen := h.count
  rcases own_open h.outer.own with ⟨h0, _⟩ | ⟨g', cur', e, _, hB2, hcl, hnc, hcm, htk⟩
  · cases h0
  · injection e with e
    injection e with e1 _ _
    subst e1
    have ec : cur' = cur := by
      have h3 := hB.symm.trans hB2
      simp only [Option.some.injEq, Obj.cells.injEq, and_true] at h3
      exact (List.toArray_inj h3).symm
    subst ec
    have hin' := h.inners.onlyA ho (fun r hr b h1 h2 => h.apart r hr b h1 (by simp [OwnB, Value.ownBlock]; exact h2.symm))
    refine ⟨⟨own_shut (Nat.zero_le _) hB' (hl.trans hcl) hnc hcm ?_, h.outer.top⟩, hin'.set hk y (Only.refl _ _) ?_, fun r hr b hb hb2 => ?_⟩
    · rw [← hlen] at htk ⊢
      exact heads_set hk _ htk hin hout
    · have := (hin'.each rs[k] (List.getElem_mem hk)).exact_
      rw [hy]; exact this
    · rcases List.mem_or_eq_of_mem_set hr with hr | rfl
      · exact h.apart r hr b hb hb2
      · exact h.apart rs[k] (List.getElem_mem hk) b hb hb2
end

end Go.Proofs.YtkchdhmnomelkaaGreat
