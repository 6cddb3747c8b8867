/-
  No cell of these rows narrows 'for every input' (looked for: loops, veiled, ifaces, maps, wideKeys, modest, calm, conditions, laid).
  DERIVED. THE GIVEN ROWS OF THIS SEAT. 11 by the template 'for every input the law returns true; each argument reads behind the call as it read before'; 0 by the template 'total and deterministic' (their statements: YtljiflbaknakaaaTotals.lean).
  GIVEN WITH THE SEED: the statements are not yours to turn. If you find one false, say at which input.
  Laid BY PROGRAM, IN A SANDBOX (cutbox-rows.mjs): the forced cells as the released guide's own fill.sh prints them over the translation c6336c3df9bd924f… (all of the seat's roots in one cut). By AI agents, Wed Nov 11 2026. No macro, syntax, notation, axiom, sorry.
-/
import Derived.Test.YtljiflbaknakaaaChecked
import GoSem.Claim
import GoSem.ClaimJoined
import GoSem.ClaimMapViews
import Derived.JoinedTies
import Derived.KernelRfl
namespace Go.Proofs.Ytljiflbaknakaaa
/- THE CELL 'sum', in the pinned program and in every row, IS THE sha256 OF THE DUMP (.gsa) THAT YtljiflbaknakaaaProg.lean LOADS. Nothing in Lean hashes anything: it is a label: what it is worth is what the hold of that sum in a sandbox is worth. -/
noncomputable def Try.pinned : Pinned := { name := "ytljiflbaknakaaa", sum := "c6336c3df9bd924f8e8ff7ebb71f0b278f50307460e1c3c65f78c42175179fad", checked := Try.checked }
namespace Rows
def none {H : Type} : Left H := { results := [], args := [] }

/-- 'laws.FnExactAreAreas': WHATEVER THE INPUT: true; the input reads as it did. -/
def fnExactAreAreasSpec : ChangeSpec := { name := "fnExactAreAreas", fn := fun _ => fun
  | [d1, d2] => { results := [.lit (.bool true)], args := [d1, d2] }
  | _ => none }
def fnExactAreAreasRow : OpenClaim := { program := "ytljiflbaknakaaa", sum := "c6336c3df9bd924f8e8ff7ebb71f0b278f50307460e1c3c65f78c42175179fad", func := "loop.example/g00938/laws.FnExactAreAreas", spec := "fnExactAreAreas", unfollowed := true, recurses := true, apart := false }
def FnExactAreAreasSaid : Prop := fnExactAreAreasRow.holds Try.pinned (OpenSpec.ofChange fnExactAreAreasSpec)

/-- ITS FALSE NEIGHBOUR: 'it returns false'. Refute it at one input. -/
def fnExactAreAreasWrong : ChangeSpec := { name := "fnExactAreAreas", fn := fun _ => fun
  | [d1, d2] => { results := [.lit (.bool false)], args := [d1, d2] }
  | _ => none }
def FnExactAreAreasWrongFalsely : Prop := fnExactAreAreasRow.holds Try.pinned (OpenSpec.ofChange fnExactAreAreasWrong)

/-- 'laws.FnExactAreasAt': WHATEVER THE INPUT: true; the input reads as it did. -/
def fnExactAreasAtSpec : ChangeSpec := { name := "fnExactAreasAt", fn := fun _ => fun
  | [d1, d2, d3, d4] => { results := [.lit (.bool true)], args := [d1, d2, d3, d4] }
  | _ => none }
def fnExactAreasAtRow : OpenClaim := { program := "ytljiflbaknakaaa", sum := "c6336c3df9bd924f8e8ff7ebb71f0b278f50307460e1c3c65f78c42175179fad", func := "loop.example/g00938/laws.FnExactAreasAt", spec := "fnExactAreasAt", unfollowed := true, recurses := true, apart := false }
def FnExactAreasAtSaid : Prop := fnExactAreasAtRow.holds Try.pinned (OpenSpec.ofChange fnExactAreasAtSpec)

/-- ITS FALSE NEIGHBOUR: 'it returns false'. Refute it at one input. -/
def fnExactAreasAtWrong : ChangeSpec := { name := "fnExactAreasAt", fn := fun _ => fun
  | [d1, d2, d3, d4] => { results := [.lit (.bool false)], args := [d1, d2, d3, d4] }
  | _ => none }
def FnExactAreasAtWrongFalsely : Prop := fnExactAreasAtRow.holds Try.pinned (OpenSpec.ofChange fnExactAreasAtWrong)

/-- 'laws.FnExactOpenCells': WHATEVER THE INPUT: true; the input reads as it did. -/
def fnExactOpenCellsSpec : ChangeSpec := { name := "fnExactOpenCells", fn := fun _ => fun
  | [d1, d2, d3] => { results := [.lit (.bool true)], args := [d1, d2, d3] }
  | _ => none }
def fnExactOpenCellsRow : OpenClaim := { program := "ytljiflbaknakaaa", sum := "c6336c3df9bd924f8e8ff7ebb71f0b278f50307460e1c3c65f78c42175179fad", func := "loop.example/g00938/laws.FnExactOpenCells", spec := "fnExactOpenCells", unfollowed := true, recurses := true, apart := false }
def FnExactOpenCellsSaid : Prop := fnExactOpenCellsRow.holds Try.pinned (OpenSpec.ofChange fnExactOpenCellsSpec)

/-- ITS FALSE NEIGHBOUR: 'it returns false'. Refute it at one input. -/
def fnExactOpenCellsWrong : ChangeSpec := { name := "fnExactOpenCells", fn := fun _ => fun
  | [d1, d2, d3] => { results := [.lit (.bool false)], args := [d1, d2, d3] }
  | _ => none }
def FnExactOpenCellsWrongFalsely : Prop := fnExactOpenCellsRow.holds Try.pinned (OpenSpec.ofChange fnExactOpenCellsWrong)

/-- 'laws.FnExactMoveArea': WHATEVER THE INPUT: true; the input reads as it did. -/
def fnExactMoveAreaSpec : ChangeSpec := { name := "fnExactMoveArea", fn := fun _ => fun
  | [d1, d2, d3, d4] => { results := [.lit (.bool true)], args := [d1, d2, d3, d4] }
  | _ => none }
def fnExactMoveAreaRow : OpenClaim := { program := "ytljiflbaknakaaa", sum := "c6336c3df9bd924f8e8ff7ebb71f0b278f50307460e1c3c65f78c42175179fad", func := "loop.example/g00938/laws.FnExactMoveArea", spec := "fnExactMoveArea", unfollowed := true, recurses := true, apart := false }
def FnExactMoveAreaSaid : Prop := fnExactMoveAreaRow.holds Try.pinned (OpenSpec.ofChange fnExactMoveAreaSpec)

/-- ITS FALSE NEIGHBOUR: 'it returns false'. Refute it at one input. -/
def fnExactMoveAreaWrong : ChangeSpec := { name := "fnExactMoveArea", fn := fun _ => fun
  | [d1, d2, d3, d4] => { results := [.lit (.bool false)], args := [d1, d2, d3, d4] }
  | _ => none }
def FnExactMoveAreaWrongFalsely : Prop := fnExactMoveAreaRow.holds Try.pinned (OpenSpec.ofChange fnExactMoveAreaWrong)

/-- 'laws.FnExactDaysForWay': WHATEVER THE INPUT: true; the input reads as it did. -/
def fnExactDaysForWaySpec : ChangeSpec := { name := "fnExactDaysForWay", fn := fun _ => fun
  | [d1, d2, d3] => { results := [.lit (.bool true)], args := [d1, d2, d3] }
  | _ => none }
def fnExactDaysForWayRow : OpenClaim := { program := "ytljiflbaknakaaa", sum := "c6336c3df9bd924f8e8ff7ebb71f0b278f50307460e1c3c65f78c42175179fad", func := "loop.example/g00938/laws.FnExactDaysForWay", spec := "fnExactDaysForWay", unfollowed := true, recurses := true, apart := false }
def FnExactDaysForWaySaid : Prop := fnExactDaysForWayRow.holds Try.pinned (OpenSpec.ofChange fnExactDaysForWaySpec)

/-- ITS FALSE NEIGHBOUR: 'it returns false'. Refute it at one input. -/
def fnExactDaysForWayWrong : ChangeSpec := { name := "fnExactDaysForWay", fn := fun _ => fun
  | [d1, d2, d3] => { results := [.lit (.bool false)], args := [d1, d2, d3] }
  | _ => none }
def FnExactDaysForWayWrongFalsely : Prop := fnExactDaysForWayRow.holds Try.pinned (OpenSpec.ofChange fnExactDaysForWayWrong)

/-- 'laws.FnExactClosedDays': WHATEVER THE INPUT: true; the input reads as it did. -/
def fnExactClosedDaysSpec : ChangeSpec := { name := "fnExactClosedDays", fn := fun _ => fun
  | [d1, d2, d3] => { results := [.lit (.bool true)], args := [d1, d2, d3] }
  | _ => none }
def fnExactClosedDaysRow : OpenClaim := { program := "ytljiflbaknakaaa", sum := "c6336c3df9bd924f8e8ff7ebb71f0b278f50307460e1c3c65f78c42175179fad", func := "loop.example/g00938/laws.FnExactClosedDays", spec := "fnExactClosedDays", unfollowed := true, recurses := true, apart := false }
def FnExactClosedDaysSaid : Prop := fnExactClosedDaysRow.holds Try.pinned (OpenSpec.ofChange fnExactClosedDaysSpec)

/-- ITS FALSE NEIGHBOUR: 'it returns false'. Refute it at one input. -/
def fnExactClosedDaysWrong : ChangeSpec := { name := "fnExactClosedDays", fn := fun _ => fun
  | [d1, d2, d3] => { results := [.lit (.bool false)], args := [d1, d2, d3] }
  | _ => none }
def FnExactClosedDaysWrongFalsely : Prop := fnExactClosedDaysRow.holds Try.pinned (OpenSpec.ofChange fnExactClosedDaysWrong)

/-- 'laws.FnExactWayErrors': WHATEVER THE INPUT: true; the input reads as it did. -/
def fnExactWayErrorsSpec : ChangeSpec := { name := "fnExactWayErrors", fn := fun _ => fun
  | [d1, d2, d3, d4] => { results := [.lit (.bool true)], args := [d1, d2, d3, d4] }
  | _ => none }
def fnExactWayErrorsRow : OpenClaim := { program := "ytljiflbaknakaaa", sum := "c6336c3df9bd924f8e8ff7ebb71f0b278f50307460e1c3c65f78c42175179fad", func := "loop.example/g00938/laws.FnExactWayErrors", spec := "fnExactWayErrors", unfollowed := true, recurses := true, apart := false }
def FnExactWayErrorsSaid : Prop := fnExactWayErrorsRow.holds Try.pinned (OpenSpec.ofChange fnExactWayErrorsSpec)

/-- ITS FALSE NEIGHBOUR: 'it returns false'. Refute it at one input. -/
def fnExactWayErrorsWrong : ChangeSpec := { name := "fnExactWayErrors", fn := fun _ => fun
  | [d1, d2, d3, d4] => { results := [.lit (.bool false)], args := [d1, d2, d3, d4] }
  | _ => none }
def FnExactWayErrorsWrongFalsely : Prop := fnExactWayErrorsRow.holds Try.pinned (OpenSpec.ofChange fnExactWayErrorsWrong)

/-- 'laws.FnExactAddArea': WHATEVER THE INPUT: true; the input reads as it did. -/
def fnExactAddAreaSpec : ChangeSpec := { name := "fnExactAddArea", fn := fun _ => fun
  | [d1, d2, d3] => { results := [.lit (.bool true)], args := [d1, d2, d3] }
  | _ => none }
def fnExactAddAreaRow : OpenClaim := { program := "ytljiflbaknakaaa", sum := "c6336c3df9bd924f8e8ff7ebb71f0b278f50307460e1c3c65f78c42175179fad", func := "loop.example/g00938/laws.FnExactAddArea", spec := "fnExactAddArea", inPlace := ["slices.overlaps[loop.example/g00938/impl.Area]"], unfollowed := true, recurses := true, apart := false }
def FnExactAddAreaSaid : Prop := fnExactAddAreaRow.holds Try.pinned (OpenSpec.ofChange fnExactAddAreaSpec)

/-- ITS FALSE NEIGHBOUR: 'it returns false'. Refute it at one input. -/
def fnExactAddAreaWrong : ChangeSpec := { name := "fnExactAddArea", fn := fun _ => fun
  | [d1, d2, d3] => { results := [.lit (.bool false)], args := [d1, d2, d3] }
  | _ => none }
def FnExactAddAreaWrongFalsely : Prop := fnExactAddAreaRow.holds Try.pinned (OpenSpec.ofChange fnExactAddAreaWrong)

/-- 'laws.FnExactLargestPart': WHATEVER THE INPUT: true; the input reads as it did. -/
def fnExactLargestPartSpec : ChangeSpec := { name := "fnExactLargestPart", fn := fun _ => fun
  | [d1, d2, d3] => { results := [.lit (.bool true)], args := [d1, d2, d3] }
  | _ => none }
def fnExactLargestPartRow : OpenClaim := { program := "ytljiflbaknakaaa", sum := "c6336c3df9bd924f8e8ff7ebb71f0b278f50307460e1c3c65f78c42175179fad", func := "loop.example/g00938/laws.FnExactLargestPart", spec := "fnExactLargestPart", unfollowed := true, recurses := true, apart := false }
def FnExactLargestPartSaid : Prop := fnExactLargestPartRow.holds Try.pinned (OpenSpec.ofChange fnExactLargestPartSpec)

/-- ITS FALSE NEIGHBOUR: 'it returns false'. Refute it at one input. -/
def fnExactLargestPartWrong : ChangeSpec := { name := "fnExactLargestPart", fn := fun _ => fun
  | [d1, d2, d3] => { results := [.lit (.bool false)], args := [d1, d2, d3] }
  | _ => none }
def FnExactLargestPartWrongFalsely : Prop := fnExactLargestPartRow.holds Try.pinned (OpenSpec.ofChange fnExactLargestPartWrong)

/-- 'laws.FnClosures': WHATEVER THE INPUT: true; the input reads as it did. -/
def fnClosuresSpec : ChangeSpec := { name := "fnClosures", fn := fun _ => fun
  | [d] => { results := [.lit (.bool true)], args := [d] }
  | _ => none }
def fnClosuresRow : OpenClaim := { program := "ytljiflbaknakaaa", sum := "c6336c3df9bd924f8e8ff7ebb71f0b278f50307460e1c3c65f78c42175179fad", func := "loop.example/g00938/laws.FnClosures", spec := "fnClosures", inPlace := ["slices.overlaps[loop.example/g00938/impl.Area]"], unfollowed := true, recurses := true, apart := false }
def FnClosuresSaid : Prop := fnClosuresRow.holds Try.pinned (OpenSpec.ofChange fnClosuresSpec)

/-- ITS FALSE NEIGHBOUR: 'it returns false'. Refute it at one input. -/
def fnClosuresWrong : ChangeSpec := { name := "fnClosures", fn := fun _ => fun
  | [d] => { results := [.lit (.bool false)], args := [d] }
  | _ => none }
def FnClosuresWrongFalsely : Prop := fnClosuresRow.holds Try.pinned (OpenSpec.ofChange fnClosuresWrong)

/-- 'laws.FnAreas': WHATEVER THE INPUT: true; the input reads as it did. -/
def fnAreasSpec : ChangeSpec := { name := "fnAreas", fn := fun _ => fun
  | [d] => { results := [.lit (.bool true)], args := [d] }
  | _ => none }
def fnAreasRow : OpenClaim := { program := "ytljiflbaknakaaa", sum := "c6336c3df9bd924f8e8ff7ebb71f0b278f50307460e1c3c65f78c42175179fad", func := "loop.example/g00938/laws.FnAreas", spec := "fnAreas", unfollowed := true, recurses := true, apart := false }
def FnAreasSaid : Prop := fnAreasRow.holds Try.pinned (OpenSpec.ofChange fnAreasSpec)

/-- ITS FALSE NEIGHBOUR: 'it returns false'. Refute it at one input. -/
def fnAreasWrong : ChangeSpec := { name := "fnAreas", fn := fun _ => fun
  | [d] => { results := [.lit (.bool false)], args := [d] }
  | _ => none }
def FnAreasWrongFalsely : Prop := fnAreasRow.holds Try.pinned (OpenSpec.ofChange fnAreasWrong)

/- THE SECOND FORM. 'bulk': how many values and letters a reading holds, each counted each time it is reached (what is shared counts as often as it is met; a slice's spare places count too). A statement '..UptoSaid' is the law's where the arguments, and the package variables that the reading takes, are together of bulk at most 1048576: NARROWER than '..Said'. Prove '..Said' where nothing that the law and all that it calls make is longer than what came in: it says more and counts as full. Else prove '..UptoSaid'. A law counts once. -/
mutual
def uptoBulk {H : Type} : DataW H → Nat
  | .lit (.string bytes) => bytes.length + 1
  | .lit _ => 1
  | .nil => 1
  | .ptr d => uptoBulk d + 1
  | .slice elems spare => uptoBulkAll elems + uptoBulkAll spare + 1
  | .agg parts => uptoBulkAll parts + 1
  | .iface _ d => uptoBulk d + 1
  | .map entries => uptoBulkEntries entries + 1
  | .held _ => 1
def uptoBulkAll {H : Type} : List (DataW H) → Nat
  | [] => 0
  | d :: r => uptoBulk d + uptoBulkAll r
def uptoBulkEntries {H : Type} : List (Lit × DataW H) → Nat
  | [] => 0
  | x :: r => uptoBulkEntry x + uptoBulkEntries r
def uptoBulkEntry {H : Type} : Lit × DataW H → Nat
  | (.string bytes, d) => bytes.length + uptoBulk d + 1
  | (_, d) => uptoBulk d + 1
 end
def uptoSmall : (H : Type) → List (DataW H) → Bool := fun _ ds => decide (uptoBulkAll ds ≤ 1048576)
def OpenSpec.upto (s : _root_.Go.ChangeSpec) : _root_.Go.OpenSpec := { _root_.Go.OpenSpec.ofChange s with cond := some uptoSmall }

/-- 'laws.FnExactAreAreas', WHERE WHAT IT READS IS OF BULK AT MOST 1048576: true; the input reads as it did. -/
def fnExactAreAreasUptoRow : OpenClaim := { program := "ytljiflbaknakaaa", sum := "c6336c3df9bd924f8e8ff7ebb71f0b278f50307460e1c3c65f78c42175179fad", func := "loop.example/g00938/laws.FnExactAreAreas", spec := "fnExactAreAreas", unfollowed := true, recurses := true, apart := false, narrowed := true }
def FnExactAreAreasUptoSaid : Prop := fnExactAreAreasUptoRow.holds Try.pinned (OpenSpec.upto fnExactAreAreasSpec)

/-- 'laws.FnExactAreasAt', WHERE WHAT IT READS IS OF BULK AT MOST 1048576: true; the input reads as it did. -/
def fnExactAreasAtUptoRow : OpenClaim := { program := "ytljiflbaknakaaa", sum := "c6336c3df9bd924f8e8ff7ebb71f0b278f50307460e1c3c65f78c42175179fad", func := "loop.example/g00938/laws.FnExactAreasAt", spec := "fnExactAreasAt", unfollowed := true, recurses := true, apart := false, narrowed := true }
def FnExactAreasAtUptoSaid : Prop := fnExactAreasAtUptoRow.holds Try.pinned (OpenSpec.upto fnExactAreasAtSpec)

/-- 'laws.FnExactOpenCells', WHERE WHAT IT READS IS OF BULK AT MOST 1048576: true; the input reads as it did. -/
def fnExactOpenCellsUptoRow : OpenClaim := { program := "ytljiflbaknakaaa", sum := "c6336c3df9bd924f8e8ff7ebb71f0b278f50307460e1c3c65f78c42175179fad", func := "loop.example/g00938/laws.FnExactOpenCells", spec := "fnExactOpenCells", unfollowed := true, recurses := true, apart := false, narrowed := true }
def FnExactOpenCellsUptoSaid : Prop := fnExactOpenCellsUptoRow.holds Try.pinned (OpenSpec.upto fnExactOpenCellsSpec)

/-- 'laws.FnExactMoveArea', WHERE WHAT IT READS IS OF BULK AT MOST 1048576: true; the input reads as it did. -/
def fnExactMoveAreaUptoRow : OpenClaim := { program := "ytljiflbaknakaaa", sum := "c6336c3df9bd924f8e8ff7ebb71f0b278f50307460e1c3c65f78c42175179fad", func := "loop.example/g00938/laws.FnExactMoveArea", spec := "fnExactMoveArea", unfollowed := true, recurses := true, apart := false, narrowed := true }
def FnExactMoveAreaUptoSaid : Prop := fnExactMoveAreaUptoRow.holds Try.pinned (OpenSpec.upto fnExactMoveAreaSpec)

/-- 'laws.FnExactDaysForWay', WHERE WHAT IT READS IS OF BULK AT MOST 1048576: true; the input reads as it did. -/
def fnExactDaysForWayUptoRow : OpenClaim := { program := "ytljiflbaknakaaa", sum := "c6336c3df9bd924f8e8ff7ebb71f0b278f50307460e1c3c65f78c42175179fad", func := "loop.example/g00938/laws.FnExactDaysForWay", spec := "fnExactDaysForWay", unfollowed := true, recurses := true, apart := false, narrowed := true }
def FnExactDaysForWayUptoSaid : Prop := fnExactDaysForWayUptoRow.holds Try.pinned (OpenSpec.upto fnExactDaysForWaySpec)

/-- 'laws.FnExactClosedDays', WHERE WHAT IT READS IS OF BULK AT MOST 1048576: true; the input reads as it did. -/
def fnExactClosedDaysUptoRow : OpenClaim := { program := "ytljiflbaknakaaa", sum := "c6336c3df9bd924f8e8ff7ebb71f0b278f50307460e1c3c65f78c42175179fad", func := "loop.example/g00938/laws.FnExactClosedDays", spec := "fnExactClosedDays", unfollowed := true, recurses := true, apart := false, narrowed := true }
def FnExactClosedDaysUptoSaid : Prop := fnExactClosedDaysUptoRow.holds Try.pinned (OpenSpec.upto fnExactClosedDaysSpec)

/-- 'laws.FnExactWayErrors', WHERE WHAT IT READS IS OF BULK AT MOST 1048576: true; the input reads as it did. -/
def fnExactWayErrorsUptoRow : OpenClaim := { program := "ytljiflbaknakaaa", sum := "c6336c3df9bd924f8e8ff7ebb71f0b278f50307460e1c3c65f78c42175179fad", func := "loop.example/g00938/laws.FnExactWayErrors", spec := "fnExactWayErrors", unfollowed := true, recurses := true, apart := false, narrowed := true }
def FnExactWayErrorsUptoSaid : Prop := fnExactWayErrorsUptoRow.holds Try.pinned (OpenSpec.upto fnExactWayErrorsSpec)

/-- 'laws.FnExactAddArea', WHERE WHAT IT READS IS OF BULK AT MOST 1048576: true; the input reads as it did. -/
def fnExactAddAreaUptoRow : OpenClaim := { program := "ytljiflbaknakaaa", sum := "c6336c3df9bd924f8e8ff7ebb71f0b278f50307460e1c3c65f78c42175179fad", func := "loop.example/g00938/laws.FnExactAddArea", spec := "fnExactAddArea", inPlace := ["slices.overlaps[loop.example/g00938/impl.Area]"], unfollowed := true, recurses := true, apart := false, narrowed := true }
def FnExactAddAreaUptoSaid : Prop := fnExactAddAreaUptoRow.holds Try.pinned (OpenSpec.upto fnExactAddAreaSpec)

/-- 'laws.FnExactLargestPart', WHERE WHAT IT READS IS OF BULK AT MOST 1048576: true; the input reads as it did. -/
def fnExactLargestPartUptoRow : OpenClaim := { program := "ytljiflbaknakaaa", sum := "c6336c3df9bd924f8e8ff7ebb71f0b278f50307460e1c3c65f78c42175179fad", func := "loop.example/g00938/laws.FnExactLargestPart", spec := "fnExactLargestPart", unfollowed := true, recurses := true, apart := false, narrowed := true }
def FnExactLargestPartUptoSaid : Prop := fnExactLargestPartUptoRow.holds Try.pinned (OpenSpec.upto fnExactLargestPartSpec)

/-- 'laws.FnClosures', WHERE WHAT IT READS IS OF BULK AT MOST 1048576: true; the input reads as it did. -/
def fnClosuresUptoRow : OpenClaim := { program := "ytljiflbaknakaaa", sum := "c6336c3df9bd924f8e8ff7ebb71f0b278f50307460e1c3c65f78c42175179fad", func := "loop.example/g00938/laws.FnClosures", spec := "fnClosures", inPlace := ["slices.overlaps[loop.example/g00938/impl.Area]"], unfollowed := true, recurses := true, apart := false, narrowed := true }
def FnClosuresUptoSaid : Prop := fnClosuresUptoRow.holds Try.pinned (OpenSpec.upto fnClosuresSpec)

/-- 'laws.FnAreas', WHERE WHAT IT READS IS OF BULK AT MOST 1048576: true; the input reads as it did. -/
def fnAreasUptoRow : OpenClaim := { program := "ytljiflbaknakaaa", sum := "c6336c3df9bd924f8e8ff7ebb71f0b278f50307460e1c3c65f78c42175179fad", func := "loop.example/g00938/laws.FnAreas", spec := "fnAreas", unfollowed := true, recurses := true, apart := false, narrowed := true }
def FnAreasUptoSaid : Prop := fnAreasUptoRow.holds Try.pinned (OpenSpec.upto fnAreasSpec)

end Rows
end Go.Proofs.Ytljiflbaknakaaa
