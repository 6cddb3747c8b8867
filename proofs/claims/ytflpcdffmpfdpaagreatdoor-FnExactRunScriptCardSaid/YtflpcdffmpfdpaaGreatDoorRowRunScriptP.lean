/- FnExactRunScript: the program's RunScript returns what the reference's returns, for all arguments; the arguments read afterwards as before. The row lists variables of Go's library; the card ties them to the program's text. No other condition. -/
import Derived.Test.YtflpcdffmpfdpaaGreatDoorRows
import Derived.Test.YtflpcdffmpfdpaaGreatDoorCards
import Derived.Test.YtflpcdffmpfdpaaGreatDoorTie
import Derived.Test.YtflpcdffmpfdpaaGreatDoorC03
namespace Go.Proofs.YtflpcdffmpfdpaaGreatDoor
open Go.ChangeShapes Go.WideShapes Go.ChangeAt Go.RowKit

namespace rowRunScript
theorem jth (os : Os) : laidMet Tryz.prog Rows.fnExactRunScriptRow.laid ((World.laidAll Tryz.prog os Rows.fnExactRunScriptRow.laid).forCall (fun _ _ => 0) ⟨#[], #[.agg #[.int .i64 0, .bool false, .slice none 0 0, .string ByteArray.empty, .string ByteArray.empty, .int .i64 0], .string ByteArray.empty], []⟩).memory :=
  laidMet_laidAll _ (by kernel_rfl) (by kernel_rfl)
theorem reads (os : Os) {H : Type} (enc : TypeId × Value → H) : ∃ ds places, DataW.whole enc Tryz.prog ((World.laidAll Tryz.prog os Rows.fnExactRunScriptRow.laid).forCall (fun _ _ => 0) ⟨#[], #[.agg #[.int .i64 0, .bool false, .slice none 0 0, .string ByteArray.empty, .string ByteArray.empty, .int .i64 0], .string ByteArray.empty], []⟩).memory Tryz.f4.params.toList Rows.fnExactRunScriptSpec.vars false (#[.agg #[.int .i64 0, .bool false, .slice none 0 0, .string ByteArray.empty, .string ByteArray.empty, .int .i64 0], .string ByteArray.empty] : Array Value).toList 8 = some (ds, [], places) :=
  js9 (by kernel_rfl)
set_option maxRecDepth 100000 in
theorem lifted (os : Os) (started : os.Started) (H : Type) (enc : TypeId × Value → H) (F0 : Stop.Interp) :
    ReturnsInHanded {} Tryz.checked os 4 .any ((OpenSpec.ofChange Rows.fnExactRunScriptSpec).preRow enc Tryz.prog Tryz.f4 Rows.fnExactRunScriptRow.domain false Rows.fnExactRunScriptRow.laid) (((OpenSpec.ofChange Rows.fnExactRunScriptSpec).at F0).post enc Tryz.prog Tryz.f4 false true false false) := by
  obtain ⟨ds0, places, hx⟩ := reads os enc
  refine returnsInHanded_of_row (C := Tryz.checked) (s := OpenSpec.ofChange Rows.fnExactRunScriptSpec) jsh started (by kernel_rfl) Tryz.func4
    (witness_row_at (enc := enc) (C := Tryz.checked) false (World.laidAll Tryz.prog os Rows.fnExactRunScriptRow.laid) #[.agg #[.int .i64 0, .bool false, .slice none 0 0, .string ByteArray.empty, .string ByteArray.empty, .int .i64 0], .string ByteArray.empty] (World.laidAll_os _ _ _) (by kernel_rfl) (by kernel_rfl) (by kernel_rfl)
      (OpenSpec.preRow_of_cond 8 hx (by kernel_rfl) (fun k hk => by cases hk) (by kernel_rfl) (jth os))) ?_
  intro W base args ds gs before hval0 hW _ _ _ hL hsh _
  have hg := jsl hL hsh
  have hval : ∀ (j : Nat) t v, Tryz.f4.params[j]? = some t → args[j]? = some v → Value.okWide Tryz.prog W .any base t v := hval0
  have hW' := hW
  obtain ⟨p, q, hA0, hV, rfl, hfz, hnd⟩ := hW
  have hA : DataW.TrodAll enc Tryz.prog W 0 (fun _ => true) true Tryz.f4.params.toList args.toList ds p := hA0
  rw [Tryz.params4] at hA hval
  obtain ⟨v0, vs0, d0, ds0, p0, q0, hargs, rfl, rfl, h0, r0⟩ := trodAll_cons hA
  obtain ⟨v1, vs1, d1, ds1, p1, q1, rfl, rfl, rfl, h1, r1⟩ := trodAll_cons r0
  obtain ⟨rfl, rfl, rfl⟩ := trodAll_nil r1
  obtain rfl : args = #[v0, v1] := by cases args; simp_all
  obtain ⟨rfl, rfl⟩ := trodVars_none hV
  have k0 := h0
  have lt0 : ∀ x ∈ p0, x.block < W.heap.size := by obtain ⟨m, hm⟩ := k0; exact DataW.trod_lt m _ _ _ hm
  have k1 := h1
  have lt1 : ∀ x ∈ p1, x.block < W.heap.size := by obtain ⟨m, hm⟩ := k1; exact DataW.trod_lt m _ _ _ hm
  obtain ⟨s0, rfl, _⟩ := okWide_struct Tryz.underlying28 (hval 0 28 v0 rfl rfl)
  obtain ⟨fuel0, e0⟩ := h0
  obtain ⟨t0, b0, l0, A0, n0, c0, X0, hx0, hn0, hs0⟩ := jsf _ _ _ e0
  obtain rfl : s0 = #[.int .i64 t0, .bool b0, .slice A0 n0 c0, .string l0.durable, .string l0.pending, .int .i64 l0.count] := Array.ext' hx0
  obtain ⟨a1, rfl, rfl, rfl, wf1⟩ := Go.ChangeMaps.open_string Tryz.underlying9 (hval 1 9 v1 rfl rfl) h1
  clear hA0 hval0
  refine (jrd t0 b0 l0 A0 n0 c0 X0 a1 W hs0 hn0 wf1 hg).mono fun e W' ⟨he, bel⟩ => ?_
  subst he
  exact ⟨_, rfl, _, _, _, [], _, [], hW', trodAll_mk1 (shut_bool Tryz.underlying4 _), (trodAll_cons_mk (Below.trod jrj (by kernel_rfl) (of_decide_eq_true (by kernel_rfl)) k0 bel lt0) (trodAll_cons_mk (Below.trod jrj (by kernel_rfl) (of_decide_eq_true (by kernel_rfl)) k1 bel lt1) trodAll_mk0)), rfl, bel.frame _, fun h => by cases h⟩

theorem said : Rows.FnExactRunScriptSaid :=
  OpenClaim.holds_of_cond 4 Tryz.f4 rfl rfl rfl rfl rfl rfl rfl ⟨rfl, rfl, rfl, rfl, rfl⟩ rfl rfl rfl rfl rfl (by kernel_rfl) Tryz.func4 (by kernel_rfl)
    (of_decide_eq_true (by kernel_rfl)) (by unfold Func.isWrapper; first | (rw [if_pos (by decide +kernel)]; kernel_rfl) | (rw [if_neg (by decide +kernel)]; exact ⟨rfl, rfl⟩))
    (fun os started H enc _ F0 => by rw [OpenClaim.pre_eq_preRow]; exact lifted os started H enc F0)
theorem plain (f : FuncId) (fn : Func) (hf : Tryz.pinned.checked.prog.funcNamed Rows.fnExactRunScriptRow.func = some f) (hfn : Tryz.pinned.checked.prog.funcs[f]? = some fn) :
    true = Tryz.pinned.checked.prog.looks [] ∧ ∀ (j : Nat) t, fn.params[j]? = some t → Tryz.pinned.checked.prog.wantsStandIn t = false := by
  obtain rfl : f = 4 := Option.some.inj ((show Tryz.prog.funcNamed Rows.fnExactRunScriptRow.func = some 4 by kernel_rfl).symm.trans hf) |>.symm
  obtain rfl : fn = Tryz.f4 := (Option.some.inj (Tryz.func4.symm.trans hfn)).symm
  refine ⟨by kernel_rfl, fun j t ht => ?_⟩
  have hall : (Tryz.f4.params.all fun u => !Tryz.prog.wantsStandIn u) = true := by kernel_rfl
  have hm : t ∈ Tryz.f4.params := Array.mem_of_getElem? ht
  have := Array.all_eq_true_iff_forall_mem.1 hall t hm
  exact (show Tryz.prog.wantsStandIn t = false by simpa using this)
/-- The card. -/
theorem proved : Rows.FnExactRunScriptCardSaid :=
  Claim7.holds_tied_plain_at .later [] _ _ _ _ said (fun _ h => by cases h) (by kernel_rfl) (fun _ h => by cases h) fnExactRunScript_row_tie rfl ⟨rfl, rfl⟩ (by kernel_rfl) rfl plain (by kernel_rfl)
end rowRunScript

end Go.Proofs.YtflpcdffmpfdpaaGreatDoor
