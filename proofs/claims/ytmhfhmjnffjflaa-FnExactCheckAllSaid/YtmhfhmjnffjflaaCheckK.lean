/- CheckAll's results as one datum, and how much they weigh. -/
import Derived.Test.YtmhfhmjnffjflaaCheckH
namespace Go.Proofs.Ytmhfhmjnffjflaa
open Go.RowKit

theorem checkD_wt (d : DeskV) : wtN Card.wt (checkD d).queue + wtN Card.wt (checkD d).trouble ≤ wtN Card.wt d.queue + wtN Card.wt d.trouble := by
  unfold checkD
  cases hq : d.queue with
  | nil => simp only [hq]; omega
  | cons x q =>
    simp only []
    split
    · simp only [wtN]; omega
    · simp only [wtN_append, wtN]; omega
theorem checkN_wt (d : DeskV) : ∀ k, wtN Card.wt (checkN k d).queue + wtN Card.wt (checkN k d).trouble ≤ wtN Card.wt d.queue + wtN Card.wt d.trouble
  | 0 => Nat.le_refl _
  | k + 1 => Nat.le_trans (checkD_wt (checkN k d)) (checkN_wt d k)
theorem deskB_wts {d : DeskV} (h : deskB d = true) : wtN Card.wt d.queue + wtN Card.wt d.trouble ≤ 1000 := by
  have h10 := (deskB_top h).2
  unfold deskB topB at h
  simp only [Bool.and_eq_true] at h
  have h1 := wt_cards h.1.1.1.2
  have h2 := wt_cards h.1.1.2
  omega
def checkAllP (d : DeskV) : Option DeskV × Int := (checkAllM d, checkAllC d)
def GivesDeskP (w : World) (R : Option DeskV × Int) : Ending → World → Prop := GivesDeskIO w R.1 R.2
theorem checkAllP_wt (d : DeskV) : wtN Card.wt ((checkAllP d).1.getD deskZ).queue ≤ 1000 ∧ wtN Card.wt ((checkAllP d).1.getD deskZ).trouble ≤ 1000 := by
  unfold checkAllP checkAllM
  cases h : deskB d
  · simp [deskZ, wtN]
  · have h1 := deskB_wts h
    have h2 := checkN_wt d d.queue.length
    exact ⟨by show wtN Card.wt (checkN d.queue.length d).queue ≤ 1000; omega, by show wtN Card.wt (checkN d.queue.length d).trouble ≤ 1000; omega⟩
theorem CheckAllP_any (h : DeskH) (d : DeskV) (w : World) (hs : SeesDesk w 0 h d) (hf : DeskFit 1048576 h d) (hc : h.n3 ≤ h.c3) :
    Calls Try.prog 7 #[.agg #[.slice h.A0 h.n0 h.c0, .slice h.A1 h.n1 h.c1, .slice h.A2 h.n2 h.c2, .slice h.A3 h.n3 h.c3, .slice h.A4 h.n4 h.c4]] w (GivesDeskP w (checkAllP d)) := CheckAll_any h d w hs hf hc
theorem specCheckAllP_any (h : DeskH) (d : DeskV) (w : World) (hs : SeesDesk w 0 h d) (hf : DeskFit 1048576 h d) (hc : h.n3 ≤ h.c3) :
    Calls Try.prog 5 #[.agg #[.slice h.A0 h.n0 h.c0, .slice h.A1 h.n1 h.c1, .slice h.A2 h.n2 h.c2, .slice h.A3 h.n3 h.c3, .slice h.A4 h.n4 h.c4]] w (GivesDeskP w (checkAllP d)) := specCheckAll_any h d w hs hf hc

end Go.Proofs.Ytmhfhmjnffjflaa
