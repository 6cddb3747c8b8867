/- A desk with few of everything: what a valid desk is, and what a check keeps. -/
import Derived.Test.YtkchdhmnomelkaaGreatCheckP
namespace Go.Proofs.YtkchdhmnomelkaaGreat
open Go.RowKit

def okCard (c : Card) : Prop := c.cnt ≤ 1000 ∧ (0 ≤ c.start ∧ c.start ≤ 36000) ∧ -1 ≤ c.finish ∧ c.finish ≤ 36000
structure Small (t : Nat) (d : DeskV) : Prop where
  codes : d.codes.length ≤ 1000
  known : d.known.length ≤ t
  total : d.queue.length + d.done.length + d.trouble.length ≤ t
  qc : ∀ c ∈ d.queue, okCard c
  tc : ∀ c ∈ d.trouble, okCard c
theorem finB_ok {c : Card} (h : finB c = true) : okCard c := by
  have h1 := finB_cnt h
  unfold finB cardB at h
  simp only [Bool.and_eq_true] at h
  obtain ⟨h2, h3, h4, h5⟩ := headB_true h.1.1
  have h3 := inB_true h3
  refine ⟨by unfold Card.cnt; omega, h3, ?_⟩
  rcases h4 with h4 | h4
  · omega
  · have := inB_true h4; omega
theorem deskB_small {d : DeskV} (h : deskB d = true) : Small 1000 d := by
  have h1 := deskB_top h
  unfold deskB topB at h
  simp only [Bool.and_eq_true, List.all_eq_true] at h
  have h0 : d.codes.length ≤ 12 := by
    have := h.1.1.1.1.1.1
    unfold codesB at this
    simp only [Bool.and_eq_true, decide_eq_true_eq] at this
    exact this.1
  exact ⟨by omega, by omega, by omega, fun c hc => finB_ok (h.1.1.1.2 c hc), fun c hc => finB_ok (h.1.1.2 c hc)⟩
theorem Small.check {t : Nat} {d : DeskV} (h : Small t d) : Small t (checkD d) := by
  obtain ⟨h1, h2, h3, h4, h5⟩ := h
  obtain ⟨s1, s2⟩ := checkD_same d
  refine ⟨by rw [s1]; exact h1, by rw [s2]; exact h2, by rw [checkD_total]; exact h3, fun c hc => ?_, fun c hc => ?_⟩
  · rw [checkD_queue] at hc
    exact h4 c (List.mem_of_mem_tail hc)
  · unfold checkD at hc
    cases hq : d.queue with
    | nil => rw [hq] at hc; exact h5 c hc
    | cons x q =>
      rw [hq] at hc
      simp only [] at hc
      split at hc
      · exact h5 c hc
      · rcases List.mem_append.1 hc with hc | hc
        · exact h5 c hc
        · obtain rfl := List.mem_singleton.1 hc
          exact h4 _ (by rw [hq]; exact List.mem_cons_self)
theorem Small.checks {t : Nat} {d : DeskV} (h : Small t d) : ∀ k, Small t (checkN k d)
  | 0 => h
  | k + 1 => (h.checks k).check
theorem Small.lens {t : Nat} {w : World} {lo : Nat} {h : DeskH} {d : DeskV} (_ : Small t d) (hs : SeesDesk w lo h d) : h.n0 = d.codes.length ∧ h.n1 = d.known.length ∧ h.n2 = d.queue.length ∧ h.n3 = d.done.length ∧ h.n4 = d.trouble.length :=
  ⟨hs.f0.icount.symm, hs.f1.icount.symm, hs.f2.count.symm, (hs.f3.count (by decide) (fun _ => rfl)).symm, hs.f4.count.symm⟩
theorem Small.fit {t u : Nat} {w : World} {lo : Nat} {h : DeskH} {d : DeskV} (hd : Small t d) (hs : SeesDesk w lo h d) (ht : t ≤ u) (hu : 1000 ≤ u) : DeskFit u h d := by
  obtain ⟨l0, l1, l2, l3, l4⟩ := hd.lens hs
  have h1 := hd.codes
  have h2 := hd.known
  have h3 := hd.total
  exact ⟨by omega, by omega, by omega, fun c hc => Nat.le_trans (hd.qc c hc).1 hu, by omega, by omega, fun c hc => Nat.le_trans (hd.tc c hc).1 hu⟩
theorem putsB_done {d : DeskV} {c : Card} {q : List Card} (hq : d.queue = c :: q) : (checkD d).done.length = d.done.length + (if putsB d c then 1 else 0) := by
  unfold checkD
  rw [hq]
  simp only []
  split <;> simp

end Go.Proofs.YtkchdhmnomelkaaGreat
