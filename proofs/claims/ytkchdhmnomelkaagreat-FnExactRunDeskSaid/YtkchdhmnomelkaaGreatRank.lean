/- DeskRanking, as the program and as the reference have it. -/
import Derived.Test.YtkchdhmnomelkaaGreatRankP
import Derived.Test.YtkchdhmnomelkaaGreatWait
namespace Go.Proofs.YtkchdhmnomelkaaGreat
open Go.RowKit

def rankM (d : DeskV) : Option (List Int) := if deskB d then some ((sortR lessR d.done).map DeskRow.number) else none
theorem rankM_len (d : DeskV) : ((rankM d).getD []).length ≤ d.done.length := by
  unfold rankM
  split
  · simp [sortR_length]
  · simp
theorem row_all (xs : List DeskRow) : (xs.flatMap DeskRow.enc).all Value.oneCell' = true := by
  rw [List.all_eq_true]
  intro v hv
  obtain ⟨x, _, h⟩ := List.mem_flatMap.1 hv
  simp only [DeskRow.enc, List.mem_cons, List.not_mem_nil, or_false] at h
  rcases h with rfl | rfl | rfl <;> rfl
theorem SeesFlat.drop {α : Type} {enc : α → List Value} {w : World} {lo s n b : Nat} {xs : List α} (h : Sees w lo s (some ⟨b, 0, none⟩) n (xs.flatMap enc)) (hs : 0 < s) (henc : ∀ x, (enc x).length = s) (k : Nat) (hk : k ≤ n) : Sees w lo s (some ⟨b, k * s, none⟩) (n - k) ((xs.drop k).flatMap enc) := by
  have hl := h.count hs henc
  refine ⟨by rw [flatMap_len _ (fun x _ => henc x), List.length_drop, hl], fun h0 => ?_⟩
  obtain ⟨b', off', e, h1, h2, h3⟩ := h.at' (by omega)
  obtain ⟨rfl, rfl⟩ : b = b' ∧ 0 = off' := by simpa using e
  refine ⟨b, k * s, rfl, h1, h2, fun j u hu => ?_⟩
  have hj : j < (n - k) * s := by
    have := (List.getElem?_eq_some_iff.1 hu).1
    rwa [flatMap_len _ (fun x _ => henc x), List.length_drop, hl] at this
  have h4 := h3 (k * s + j) u (by
    have e1 : xs.flatMap enc = (xs.take k).flatMap enc ++ (xs.drop k).flatMap enc := by rw [← List.flatMap_append, List.take_append_drop]
    rw [e1, List.getElem?_append_right (by rw [flatMap_len _ (fun x _ => henc x), List.length_take]; have : min k xs.length = k := by omega
                                           rw [this]; omega), flatMap_len _ (fun x _ => henc x), List.length_take, show min k xs.length = k by omega, Nat.add_sub_cancel_left, hu])
  rwa [Nat.zero_add] at h4
theorem nums_next (R : List DeskRow) {t : Nat} (ht : t < R.length) : (R.take (t + 1)).map DeskRow.number = (R.take t).map DeskRow.number ++ [R[t].number] := by
  rw [List.take_succ_eq_append_getElem ht, List.map_append]
  rfl
theorem sortR_less (xs : List DeskRow) : sortR (ltOf' cfR) xs = sortR lessR xs := by
  rw [show (ltOf' cfR : DeskRow → DeskRow → Bool) = lessR from funext fun x => funext fun y => lessR_eq x y]

end Go.Proofs.YtkchdhmnomelkaaGreat
