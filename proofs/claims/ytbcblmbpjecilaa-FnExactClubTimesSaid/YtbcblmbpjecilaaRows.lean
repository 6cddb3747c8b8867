/-
  No cell of these rows narrows 'for every input' (looked for: loops, veiled, ifaces, maps, wideKeys, modest, calm, conditions, laid).
  DERIVED. THE GIVEN ROWS OF THIS SEAT. 6 by the template 'for every input the law returns true; each argument reads behind the call as it read before'; 0 by the template 'total and deterministic' (their statements: YtbcblmbpjecilaaTotals.lean).
  GIVEN WITH THE SEED: the statements are not yours to turn. If you find one false, say at which input.
  Laid BY PROGRAM, IN A SANDBOX (cutbox-rows.mjs): the forced cells as the released guide's own fill.sh prints them over the translation 1e0458e4c9cb8185… (all of the seat's roots in one cut). By AI agents, Wed Nov 11 2026. No macro, syntax, notation, axiom, sorry.
-/
import Derived.Test.YtbcblmbpjecilaaChecked
import GoSem.Claim
import GoSem.ClaimJoined
import GoSem.ClaimMapViews
import Derived.JoinedTies
import Derived.KernelRfl
namespace Go.Proofs.Ytbcblmbpjecilaa
/- THE CELL 'sum', in the pinned program and in every row, IS THE sha256 OF THE DUMP (.gsa) THAT YtbcblmbpjecilaaProg.lean LOADS. Nothing in Lean hashes anything: it is a label: what it is worth is what the hold of that sum in a sandbox is worth. -/
noncomputable def Try.pinned : Pinned := { name := "ytbcblmbpjecilaa", sum := "1e0458e4c9cb8185fd2247e5e00ffdf22a5e32eef37786ac03c437dafe8f4f2c", checked := Try.checked }
namespace Rows
def none {H : Type} : Left H := { results := [], args := [] }

/-- 'laws.FnExactIsReportLine': WHATEVER THE INPUT: true; the input reads as it did. -/
def fnExactIsReportLineSpec : ChangeSpec := { name := "fnExactIsReportLine", fn := fun _ => fun
  | [d] => { results := [.lit (.bool true)], args := [d] }
  | _ => none }
def fnExactIsReportLineRow : OpenClaim := { program := "ytbcblmbpjecilaa", sum := "1e0458e4c9cb8185fd2247e5e00ffdf22a5e32eef37786ac03c437dafe8f4f2c", func := "loop.example/g00938/laws.FnExactIsReportLine", spec := "fnExactIsReportLine", apart := false }
def FnExactIsReportLineSaid : Prop := fnExactIsReportLineRow.holds Try.pinned (OpenSpec.ofChange fnExactIsReportLineSpec)

/-- ITS FALSE NEIGHBOUR: 'it returns false'. Refute it at one input. -/
def fnExactIsReportLineWrong : ChangeSpec := { name := "fnExactIsReportLine", fn := fun _ => fun
  | [d] => { results := [.lit (.bool false)], args := [d] }
  | _ => none }
def FnExactIsReportLineWrongFalsely : Prop := fnExactIsReportLineRow.holds Try.pinned (OpenSpec.ofChange fnExactIsReportLineWrong)

/-- 'laws.FnExactAreLines': WHATEVER THE INPUT: true; the input reads as it did. -/
def fnExactAreLinesSpec : ChangeSpec := { name := "fnExactAreLines", fn := fun _ => fun
  | [d] => { results := [.lit (.bool true)], args := [d] }
  | _ => none }
def fnExactAreLinesRow : OpenClaim := { program := "ytbcblmbpjecilaa", sum := "1e0458e4c9cb8185fd2247e5e00ffdf22a5e32eef37786ac03c437dafe8f4f2c", func := "loop.example/g00938/laws.FnExactAreLines", spec := "fnExactAreLines", unfollowed := true, recurses := true, apart := false }
def FnExactAreLinesSaid : Prop := fnExactAreLinesRow.holds Try.pinned (OpenSpec.ofChange fnExactAreLinesSpec)

/-- ITS FALSE NEIGHBOUR: 'it returns false'. Refute it at one input. -/
def fnExactAreLinesWrong : ChangeSpec := { name := "fnExactAreLines", fn := fun _ => fun
  | [d] => { results := [.lit (.bool false)], args := [d] }
  | _ => none }
def FnExactAreLinesWrongFalsely : Prop := fnExactAreLinesRow.holds Try.pinned (OpenSpec.ofChange fnExactAreLinesWrong)

/-- 'laws.FnExactLineCounts': WHATEVER THE INPUT: true; the input reads as it did. -/
def fnExactLineCountsSpec : ChangeSpec := { name := "fnExactLineCounts", fn := fun _ => fun
  | [d] => { results := [.lit (.bool true)], args := [d] }
  | _ => none }
def fnExactLineCountsRow : OpenClaim := { program := "ytbcblmbpjecilaa", sum := "1e0458e4c9cb8185fd2247e5e00ffdf22a5e32eef37786ac03c437dafe8f4f2c", func := "loop.example/g00938/laws.FnExactLineCounts", spec := "fnExactLineCounts", unfollowed := true, recurses := true, apart := false }
def FnExactLineCountsSaid : Prop := fnExactLineCountsRow.holds Try.pinned (OpenSpec.ofChange fnExactLineCountsSpec)

/-- ITS FALSE NEIGHBOUR: 'it returns false'. Refute it at one input. -/
def fnExactLineCountsWrong : ChangeSpec := { name := "fnExactLineCounts", fn := fun _ => fun
  | [d] => { results := [.lit (.bool false)], args := [d] }
  | _ => none }
def FnExactLineCountsWrongFalsely : Prop := fnExactLineCountsRow.holds Try.pinned (OpenSpec.ofChange fnExactLineCountsWrong)

/-- 'laws.FnExactClubTimes': WHATEVER THE INPUT: true; the input reads as it did. -/
def fnExactClubTimesSpec : ChangeSpec := { name := "fnExactClubTimes", fn := fun _ => fun
  | [d1, d2, d3] => { results := [.lit (.bool true)], args := [d1, d2, d3] }
  | _ => none }
def fnExactClubTimesRow : OpenClaim := { program := "ytbcblmbpjecilaa", sum := "1e0458e4c9cb8185fd2247e5e00ffdf22a5e32eef37786ac03c437dafe8f4f2c", func := "loop.example/g00938/laws.FnExactClubTimes", spec := "fnExactClubTimes", inPlace := ["internal/bytealg.abigen_runtime_cmpstring"], unfollowed := true, recurses := true, apart := false }
def FnExactClubTimesSaid : Prop := fnExactClubTimesRow.holds Try.pinned (OpenSpec.ofChange fnExactClubTimesSpec)

/-- ITS FALSE NEIGHBOUR: 'it returns false'. Refute it at one input. -/
def fnExactClubTimesWrong : ChangeSpec := { name := "fnExactClubTimes", fn := fun _ => fun
  | [d1, d2, d3] => { results := [.lit (.bool false)], args := [d1, d2, d3] }
  | _ => none }
def FnExactClubTimesWrongFalsely : Prop := fnExactClubTimesRow.holds Try.pinned (OpenSpec.ofChange fnExactClubTimesWrong)

/-- 'laws.FnExactSortLines': WHATEVER THE INPUT: true; the input reads as it did. -/
def fnExactSortLinesSpec : ChangeSpec := { name := "fnExactSortLines", fn := fun _ => fun
  | [d] => { results := [.lit (.bool true)], args := [d] }
  | _ => none }
def fnExactSortLinesRow : OpenClaim := { program := "ytbcblmbpjecilaa", sum := "1e0458e4c9cb8185fd2247e5e00ffdf22a5e32eef37786ac03c437dafe8f4f2c", func := "loop.example/g00938/laws.FnExactSortLines", spec := "fnExactSortLines", inPlace := ["internal/bytealg.abigen_runtime_cmpstring"], unfollowed := true, recurses := true, apart := false }
def FnExactSortLinesSaid : Prop := fnExactSortLinesRow.holds Try.pinned (OpenSpec.ofChange fnExactSortLinesSpec)

/-- ITS FALSE NEIGHBOUR: 'it returns false'. Refute it at one input. -/
def fnExactSortLinesWrong : ChangeSpec := { name := "fnExactSortLines", fn := fun _ => fun
  | [d] => { results := [.lit (.bool false)], args := [d] }
  | _ => none }
def FnExactSortLinesWrongFalsely : Prop := fnExactSortLinesRow.holds Try.pinned (OpenSpec.ofChange fnExactSortLinesWrong)

/-- 'laws.FnExactGapsBehind': WHATEVER THE INPUT: true; the input reads as it did. -/
def fnExactGapsBehindSpec : ChangeSpec := { name := "fnExactGapsBehind", fn := fun _ => fun
  | [d] => { results := [.lit (.bool true)], args := [d] }
  | _ => none }
def fnExactGapsBehindRow : OpenClaim := { program := "ytbcblmbpjecilaa", sum := "1e0458e4c9cb8185fd2247e5e00ffdf22a5e32eef37786ac03c437dafe8f4f2c", func := "loop.example/g00938/laws.FnExactGapsBehind", spec := "fnExactGapsBehind", inPlace := ["internal/bytealg.abigen_runtime_cmpstring"], unfollowed := true, recurses := true, apart := false }
def FnExactGapsBehindSaid : Prop := fnExactGapsBehindRow.holds Try.pinned (OpenSpec.ofChange fnExactGapsBehindSpec)

/-- ITS FALSE NEIGHBOUR: 'it returns false'. Refute it at one input. -/
def fnExactGapsBehindWrong : ChangeSpec := { name := "fnExactGapsBehind", fn := fun _ => fun
  | [d] => { results := [.lit (.bool false)], args := [d] }
  | _ => none }
def FnExactGapsBehindWrongFalsely : Prop := fnExactGapsBehindRow.holds Try.pinned (OpenSpec.ofChange fnExactGapsBehindWrong)

/- THE SECOND FORM. 'bulk': how many values and letters a reading holds, each counted each time it is reached (what is shared counts as often as it is met; a slice's spare places count too). A statement '..UptoSaid' is the law's where the arguments, and the package variables that the reading takes, are together of bulk at most 1048576: NARROWER than '..Said'. Prove '..Said' where nothing that the law and all that it calls make is longer than what came in: it says more and counts as full. Else prove '..UptoSaid'. A law counts once. -/
mutual
def uptoBulk {H : Type} : DataW H → Nat
  | .lit (.string bytes) => bytes.length + 1
  | .lit _ => 1
  | .nil => 1
  | .ptr d => uptoBulk d + 1
  | .slice elems spare => uptoBulkAll elems + uptoBulkAll spare + 1
  | .agg parts => uptoBulkAll parts + 1
  | .iface _ d => uptoBulk d + 1
  | .map entries => uptoBulkEntries entries + 1
  | .held _ => 1
def uptoBulkAll {H : Type} : List (DataW H) → Nat
  | [] => 0
  | d :: r => uptoBulk d + uptoBulkAll r
def uptoBulkEntries {H : Type} : List (Lit × DataW H) → Nat
  | [] => 0
  | x :: r => uptoBulkEntry x + uptoBulkEntries r
def uptoBulkEntry {H : Type} : Lit × DataW H → Nat
  | (.string bytes, d) => bytes.length + uptoBulk d + 1
  | (_, d) => uptoBulk d + 1
 end
def uptoSmall : (H : Type) → List (DataW H) → Bool := fun _ ds => decide (uptoBulkAll ds ≤ 1048576)
def OpenSpec.upto (s : _root_.Go.ChangeSpec) : _root_.Go.OpenSpec := { _root_.Go.OpenSpec.ofChange s with cond := some uptoSmall }

/-- 'laws.FnExactIsReportLine', WHERE WHAT IT READS IS OF BULK AT MOST 1048576: true; the input reads as it did. -/
def fnExactIsReportLineUptoRow : OpenClaim := { program := "ytbcblmbpjecilaa", sum := "1e0458e4c9cb8185fd2247e5e00ffdf22a5e32eef37786ac03c437dafe8f4f2c", func := "loop.example/g00938/laws.FnExactIsReportLine", spec := "fnExactIsReportLine", apart := false, narrowed := true }
def FnExactIsReportLineUptoSaid : Prop := fnExactIsReportLineUptoRow.holds Try.pinned (OpenSpec.upto fnExactIsReportLineSpec)

/-- 'laws.FnExactAreLines', WHERE WHAT IT READS IS OF BULK AT MOST 1048576: true; the input reads as it did. -/
def fnExactAreLinesUptoRow : OpenClaim := { program := "ytbcblmbpjecilaa", sum := "1e0458e4c9cb8185fd2247e5e00ffdf22a5e32eef37786ac03c437dafe8f4f2c", func := "loop.example/g00938/laws.FnExactAreLines", spec := "fnExactAreLines", unfollowed := true, recurses := true, apart := false, narrowed := true }
def FnExactAreLinesUptoSaid : Prop := fnExactAreLinesUptoRow.holds Try.pinned (OpenSpec.upto fnExactAreLinesSpec)

/-- 'laws.FnExactLineCounts', WHERE WHAT IT READS IS OF BULK AT MOST 1048576: true; the input reads as it did. -/
def fnExactLineCountsUptoRow : OpenClaim := { program := "ytbcblmbpjecilaa", sum := "1e0458e4c9cb8185fd2247e5e00ffdf22a5e32eef37786ac03c437dafe8f4f2c", func := "loop.example/g00938/laws.FnExactLineCounts", spec := "fnExactLineCounts", unfollowed := true, recurses := true, apart := false, narrowed := true }
def FnExactLineCountsUptoSaid : Prop := fnExactLineCountsUptoRow.holds Try.pinned (OpenSpec.upto fnExactLineCountsSpec)

/-- 'laws.FnExactClubTimes', WHERE WHAT IT READS IS OF BULK AT MOST 1048576: true; the input reads as it did. -/
def fnExactClubTimesUptoRow : OpenClaim := { program := "ytbcblmbpjecilaa", sum := "1e0458e4c9cb8185fd2247e5e00ffdf22a5e32eef37786ac03c437dafe8f4f2c", func := "loop.example/g00938/laws.FnExactClubTimes", spec := "fnExactClubTimes", inPlace := ["internal/bytealg.abigen_runtime_cmpstring"], unfollowed := true, recurses := true, apart := false, narrowed := true }
def FnExactClubTimesUptoSaid : Prop := fnExactClubTimesUptoRow.holds Try.pinned (OpenSpec.upto fnExactClubTimesSpec)

/-- 'laws.FnExactSortLines', WHERE WHAT IT READS IS OF BULK AT MOST 1048576: true; the input reads as it did. -/
def fnExactSortLinesUptoRow : OpenClaim := { program := "ytbcblmbpjecilaa", sum := "1e0458e4c9cb8185fd2247e5e00ffdf22a5e32eef37786ac03c437dafe8f4f2c", func := "loop.example/g00938/laws.FnExactSortLines", spec := "fnExactSortLines", inPlace := ["internal/bytealg.abigen_runtime_cmpstring"], unfollowed := true, recurses := true, apart := false, narrowed := true }
def FnExactSortLinesUptoSaid : Prop := fnExactSortLinesUptoRow.holds Try.pinned (OpenSpec.upto fnExactSortLinesSpec)

/-- 'laws.FnExactGapsBehind', WHERE WHAT IT READS IS OF BULK AT MOST 1048576: true; the input reads as it did. -/
def fnExactGapsBehindUptoRow : OpenClaim := { program := "ytbcblmbpjecilaa", sum := "1e0458e4c9cb8185fd2247e5e00ffdf22a5e32eef37786ac03c437dafe8f4f2c", func := "loop.example/g00938/laws.FnExactGapsBehind", spec := "fnExactGapsBehind", inPlace := ["internal/bytealg.abigen_runtime_cmpstring"], unfollowed := true, recurses := true, apart := false, narrowed := true }
def FnExactGapsBehindUptoSaid : Prop := fnExactGapsBehindUptoRow.holds Try.pinned (OpenSpec.upto fnExactGapsBehindSpec)

end Rows
end Go.Proofs.Ytbcblmbpjecilaa
