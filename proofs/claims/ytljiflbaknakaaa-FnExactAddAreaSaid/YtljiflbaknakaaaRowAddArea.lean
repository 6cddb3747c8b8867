/- FnExactAddArea: the program's AddArea returns what the reference's returns, for all arguments; the arguments read afterwards as before. No condition. -/
import Derived.Test.YtljiflbaknakaaaRows
import Derived.Test.YtljiflbaknakaaaLawAddArea
import Derived.Test.YtljiflbaknakaaaOpenB
namespace Go.Proofs.Ytljiflbaknakaaa
open Go.ChangeShapes Go.WideShapes Go.ChangeAt Go.RowKit

namespace rowAddArea
set_option maxRecDepth 100000 in
theorem lifted (os : Os) (started : os.Started) (H : Type) (enc : TypeId × Value → H) :
    ReturnsInHanded {} Try.checked os 10 .any (Rows.fnExactAddAreaSpec.pre6 enc Try.prog Try.f10 Rows.fnExactAddAreaRow.domain false) (Rows.fnExactAddAreaSpec.post enc Try.prog Try.f10 false true false false) := by
  refine returnsInHanded_of_change (C := Try.checked) ownKnob_none started (by kernel_rfl) Try.func10
    (ChangeSpec.witness6 (enc := enc) (C := Try.checked) false ⟨#[], #[.agg #[.int .i64 0, .int .i64 0, .slice none 0 0, .slice none 0 0], .slice none 0 0, .agg #[.int .i64 0, .slice none 0 0, .int .i64 0, .int .i64 0]], []⟩ 8 (by kernel_rfl) (by kernel_rfl) (by kernel_rfl) (by kernel_rfl)) ?_
  intro W base args ds gs before hval0 hW hcnd _
  have hval : ∀ (j : Nat) t v, Try.f10.params[j]? = some t → args[j]? = some v → Value.okWide Try.prog W .any base t v := hval0
  have hW' := hW
  obtain ⟨p, q, hA0, hV, rfl, hfz, hnd⟩ := hW
  have hA : DataW.TrodAll enc Try.prog W 0 (fun _ => true) true Try.f10.params.toList args.toList ds p := hA0
  rw [Try.params10] at hA hval
  obtain ⟨v0, vs0, d0, ds0, p0, q0, hargs, rfl, rfl, h0, r0⟩ := trodAll_cons hA
  obtain ⟨v1, vs1, d1, ds1, p1, q1, rfl, rfl, rfl, h1, r1⟩ := trodAll_cons r0
  obtain ⟨v2, vs2, d2, ds2, p2, q2, rfl, rfl, rfl, h2, r2⟩ := trodAll_cons r1
  obtain ⟨rfl, rfl, rfl⟩ := trodAll_nil r2
  obtain rfl : args = #[v0, v1, v2] := by cases args; simp_all
  obtain ⟨rfl, rfl⟩ := trodVars_none hV
  have k0 := h0
  have lt0 : ∀ x ∈ p0, x.block < W.heap.size := by obtain ⟨m, hm⟩ := k0; exact DataW.trod_lt m _ _ _ hm
  have k1 := h1
  have lt1 : ∀ x ∈ p1, x.block < W.heap.size := by obtain ⟨m, hm⟩ := k1; exact DataW.trod_lt m _ _ _ hm
  have k2 := h2
  have lt2 : ∀ x ∈ p2, x.block < W.heap.size := by obtain ⟨m, hm⟩ := k2; exact DataW.trod_lt m _ _ _ hm
  obtain ⟨s0, rfl, _⟩ := okWide_struct Try.underlying24 (hval 0 24 v0 rfl rfl)
  obtain ⟨fuel0, e0⟩ := h0
  obtain ⟨A0, B0, n0, l0, c0, d0, m0, hx0, hn0, hs0⟩ := open_Map _ _ _ e0
  obtain rfl : s0 = #[.int .i64 m0.width, .int .i64 m0.height, .slice A0 n0 c0, .slice B0 l0 d0] := Array.ext' hx0
  obtain ⟨z1a, z1b, z1c, rfl⟩ := okWide_slice Try.underlying25 (hval 1 25 v1 rfl rfl)
  obtain ⟨fuel1, e1⟩ := h1
  obtain ⟨A1, n1, c1, x1, hcs1, hn1, hs1, hk1⟩ := open_AreaS e1
  simp only [Value.cells, List.cons.injEq, Value.slice.injEq, and_true] at hcs1
  obtain ⟨rfl, rfl, rfl⟩ := hcs1
  obtain ⟨s2, rfl, _⟩ := okWide_struct Try.underlying59 (hval 2 59 v2 rfl rfl)
  obtain ⟨fuel2, e2⟩ := h2
  obtain ⟨A2, n2, c2, d2, hx2, hn2, hs2⟩ := open_AreaV _ _ _ e2
  obtain rfl : s2 = #[.int .i64 d2.id, .slice A2 n2 c2, .int .i64 d2.first, .int .i64 d2.last] := Array.ext' hx2
  clear hA0 hval0
  refine (FnExactAddArea_any A0 B0 n0 l0 c0 d0 m0 z1a z1b z1c x1 A2 n2 c2 d2 W hs0 hn0 hs1 hn1 hk1 hs2 hn2).mono fun e W' ⟨he, bel⟩ => ?_
  subst he
  exact ⟨_, rfl, _, _, _, [], _, [], hW', trodAll_mk1 (shut_bool Try.underlying4 _), (trodAll_cons_mk (Below.trod laidOut_true (by kernel_rfl) (of_decide_eq_true (by kernel_rfl)) k0 bel lt0) (trodAll_cons_mk (Below.trod laidOut_true (by kernel_rfl) (of_decide_eq_true (by kernel_rfl)) k1 bel lt1) (trodAll_cons_mk (Below.trod laidOut_true (by kernel_rfl) (of_decide_eq_true (by kernel_rfl)) k2 bel lt2) trodAll_mk0))), rfl, bel.frame _, fun h => by cases h⟩

theorem proved : Rows.FnExactAddAreaSaid :=
  OpenClaim.holds_of_wide 10 Try.f10 rfl rfl rfl rfl rfl rfl rfl ⟨rfl, rfl, rfl, rfl, rfl⟩ rfl rfl rfl rfl rfl (by kernel_rfl) Try.func10 (by kernel_rfl)
    (of_decide_eq_true (by kernel_rfl)) (by unfold Func.isWrapper; first | (rw [if_pos (by decide +kernel)]; kernel_rfl) | (rw [if_neg (by decide +kernel)]; exact ⟨rfl, rfl⟩))
    (fun os started H enc _ => lifted os started H enc)
end rowAddArea

end Go.Proofs.Ytljiflbaknakaaa
