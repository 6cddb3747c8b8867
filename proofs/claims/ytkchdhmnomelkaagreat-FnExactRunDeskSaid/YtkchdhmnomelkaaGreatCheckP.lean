/- All checks of a desk: the plain law; the rest of a slice of cards behind its first one. -/
import Derived.Test.YtkchdhmnomelkaaGreatNewK
import Derived.Test.YtkchdhmnomelkaaGreatMissC
namespace Go.Proofs.YtkchdhmnomelkaaGreat
open Go.RowKit

/-- A row is put for a card. -/
def putsB (d : DeskV) (c : Card) : Bool := hasI d.known c.number && !doneB d.done c.number
def rowOf (d : DeskV) (c : Card) : DeskRow := ⟨c.number, ((missL c d.codes).length : Int), c.finish - c.start⟩
/-- One check. -/
def checkD (d : DeskV) : DeskV :=
  match d.queue with
  | [] => d
  | c :: q => if putsB d c then { d with queue := q, done := d.done ++ [rowOf d c] } else { d with queue := q, trouble := d.trouble ++ [c] }
def checkN : Nat → DeskV → DeskV
  | 0, d => d
  | k + 1, d => checkD (checkN k d)
theorem checkD_queue (d : DeskV) : (checkD d).queue = d.queue.tail := by
  unfold checkD
  cases h : d.queue with
  | nil => simp [h]
  | cons c q => simp only []; split <;> rfl
theorem checkD_same (d : DeskV) : (checkD d).codes = d.codes ∧ (checkD d).known = d.known := by
  unfold checkD
  cases d.queue with
  | nil => exact ⟨rfl, rfl⟩
  | cons c q => simp only []; split <;> exact ⟨rfl, rfl⟩
theorem checkD_total (d : DeskV) : (checkD d).queue.length + (checkD d).done.length + (checkD d).trouble.length = d.queue.length + d.done.length + d.trouble.length := by
  unfold checkD
  cases h : d.queue with
  | nil => simp [h]
  | cons c q => simp only []; split <;> simp <;> omega
theorem checkN_queue (d : DeskV) : ∀ k, (checkN k d).queue = d.queue.drop k
  | 0 => rfl
  | k + 1 => by rw [checkN, checkD_queue, checkN_queue d k, List.tail_drop]
theorem checkN_same (d : DeskV) : ∀ k, (checkN k d).codes = d.codes ∧ (checkN k d).known = d.known
  | 0 => ⟨rfl, rfl⟩
  | k + 1 => by
    obtain ⟨h1, h2⟩ := checkN_same d k
    obtain ⟨h3, h4⟩ := checkD_same (checkN k d)
    exact ⟨h3.trans h1, h4.trans h2⟩
theorem checkN_total (d : DeskV) : ∀ k, (checkN k d).queue.length + (checkN k d).done.length + (checkN k d).trouble.length = d.queue.length + d.done.length + d.trouble.length
  | 0 => rfl
  | k + 1 => (checkD_total _).trans (checkN_total d k)
theorem checkN_at (d : DeskV) {k : Nat} (hk : k < d.queue.length) : checkN (k + 1) d = if putsB (checkN k d) d.queue[k] then { checkN k d with queue := d.queue.drop (k + 1), done := (checkN k d).done ++ [rowOf (checkN k d) d.queue[k]] } else { checkN k d with queue := d.queue.drop (k + 1), trouble := (checkN k d).trouble ++ [d.queue[k]] } := by
  have hq := checkN_queue d k
  rw [List.drop_eq_getElem_cons hk] at hq
  rw [checkN, checkD, hq]
/-- All checks: the desk, and how many rows were put. -/
def checkAllM (d : DeskV) : Option DeskV := if deskB d then some (checkN d.queue.length d) else none
def checkAllC (d : DeskV) : Int := if deskB d then ((checkN d.queue.length d).done.length : Int) - d.done.length else 0

section
variable {α : Type} {sh : Sh α} {w : World} {S : Nat → Prop} {t ti : TypeId} {g off k : Nat} {xs : List α}
theorem BlkO.drop {cs : List Value} (h : BlkO w g off t cs) (s : Nat) (hs : s ≤ cs.length) : BlkO w g (off + s) t (cs.drop s) := by
  obtain ⟨pre, rfl, h⟩ := h
  exact ⟨pre ++ cs.take s, by rw [List.length_append, List.length_take]; omega, by rw [List.append_assoc, List.take_append_drop]; exact h⟩
/-- The first element's slice, and the rest behind it. -/
theorem MineO.tail (h : MineO sh w S t ti (some ⟨g, off, none⟩) (k + 1) xs) : MineO sh w S t ti (some ⟨g, off + sh.s, none⟩) k xs.tail := by
  obtain ⟨rs, rfl, hin, hl, h4⟩ := h
  rcases h4 with h4 | ⟨g', off', cs, e, hS, hB, hle, htk, hag⟩
  · omega
  · simp only [Option.some.injEq, Addr.mk.injEq, and_true] at e
    obtain ⟨rfl, rfl⟩ := e
    cases rs with
    | nil => simp at hl
    | cons r rs =>
      simp only [List.length_cons, Nat.add_right_cancel_iff] at hl
      have hs : sh.s ≤ cs.length := by rw [Nat.succ_mul] at hle; omega
      refine ⟨rs, rfl, ⟨fun r' hr' => hin.each r' (List.mem_cons_of_mem _ hr'), (List.pairwise_cons.1 hin.pair).2⟩, hl, .inr ⟨g, off + sh.s, cs.drop sh.s, rfl, hS, hB.drop sh.s hs, ?_, ?_, fun r' hr' => hag r' (List.mem_cons_of_mem _ hr')⟩⟩
      · rw [List.length_drop]
        rw [Nat.succ_mul] at hle
        omega
      · have h5 := congrArg (List.drop sh.s) htk
        rw [List.flatMap_cons, List.drop_left' (sh.len r), List.drop_take, show (k + 1) * sh.s - sh.s = k * sh.s by rw [Nat.succ_mul]; omega] at h5
        exact h5
end
end Go.Proofs.YtkchdhmnomelkaaGreat
