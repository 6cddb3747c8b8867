/-
  No cell of these rows narrows 'for every input' (looked for: loops, veiled, ifaces, maps, wideKeys, modest, calm, conditions, laid).
  DERIVED. THE GIVEN ROWS OF THIS SEAT. 10 by the template 'for every input the law returns true; each argument reads behind the call as it read before'; 0 by the template 'total and deterministic' (their statements: YtjcmlloglnkbfaaTotals.lean).
  GIVEN WITH THE SEED: the statements are not yours to turn. If you find one false, say at which input.
  Laid BY PROGRAM, IN A SANDBOX (cutbox-rows.mjs): the forced cells as the released guide's own fill.sh prints them over the translation 60192c2ed1666123… (all of the seat's roots in one cut). By AI agents, Wed Nov 11 2026. No macro, syntax, notation, axiom, sorry.
-/
import Derived.Test.YtjcmlloglnkbfaaChecked
import GoSem.Claim
import GoSem.ClaimJoined
import GoSem.ClaimMapViews
import Derived.JoinedTies
import Derived.KernelRfl
namespace Go.Proofs.Ytjcmlloglnkbfaa
/- THE CELL 'sum', in the pinned program and in every row, IS THE sha256 OF THE DUMP (.gsa) THAT YtjcmlloglnkbfaaProg.lean LOADS. Nothing in Lean hashes anything: it is a label: what it is worth is what the hold of that sum in a sandbox is worth. -/
noncomputable def Try.pinned : Pinned := { name := "ytjcmlloglnkbfaa", sum := "60192c2ed16661237d8d4c2216f74c571c2c83dbc64e1c14f94ce364da07a7b5", checked := Try.checked }
namespace Rows
def none {H : Type} : Left H := { results := [], args := [] }

/-- 'laws.FnExactIsMissing': WHATEVER THE INPUT: true; the input reads as it did. -/
def fnExactIsMissingSpec : ChangeSpec := { name := "fnExactIsMissing", fn := fun _ => fun
  | [d1, d2] => { results := [.lit (.bool true)], args := [d1, d2] }
  | _ => none }
def fnExactIsMissingRow : OpenClaim := { program := "ytjcmlloglnkbfaa", sum := "60192c2ed16661237d8d4c2216f74c571c2c83dbc64e1c14f94ce364da07a7b5", func := "loop.example/g00938/laws.FnExactIsMissing", spec := "fnExactIsMissing", unfollowed := true, recurses := true, apart := false }
def FnExactIsMissingSaid : Prop := fnExactIsMissingRow.holds Try.pinned (OpenSpec.ofChange fnExactIsMissingSpec)

/-- ITS FALSE NEIGHBOUR: 'it returns false'. Refute it at one input. -/
def fnExactIsMissingWrong : ChangeSpec := { name := "fnExactIsMissing", fn := fun _ => fun
  | [d1, d2] => { results := [.lit (.bool false)], args := [d1, d2] }
  | _ => none }
def FnExactIsMissingWrongFalsely : Prop := fnExactIsMissingRow.holds Try.pinned (OpenSpec.ofChange fnExactIsMissingWrong)

/-- 'laws.FnExactAfterSearch': WHATEVER THE INPUT: true; the input reads as it did. -/
def fnExactAfterSearchSpec : ChangeSpec := { name := "fnExactAfterSearch", fn := fun _ => fun
  | [d1, d2, d3] => { results := [.lit (.bool true)], args := [d1, d2, d3] }
  | _ => none }
def fnExactAfterSearchRow : OpenClaim := { program := "ytjcmlloglnkbfaa", sum := "60192c2ed16661237d8d4c2216f74c571c2c83dbc64e1c14f94ce364da07a7b5", func := "loop.example/g00938/laws.FnExactAfterSearch", spec := "fnExactAfterSearch", unfollowed := true, recurses := true, apart := false }
def FnExactAfterSearchSaid : Prop := fnExactAfterSearchRow.holds Try.pinned (OpenSpec.ofChange fnExactAfterSearchSpec)

/-- ITS FALSE NEIGHBOUR: 'it returns false'. Refute it at one input. -/
def fnExactAfterSearchWrong : ChangeSpec := { name := "fnExactAfterSearch", fn := fun _ => fun
  | [d1, d2, d3] => { results := [.lit (.bool false)], args := [d1, d2, d3] }
  | _ => none }
def FnExactAfterSearchWrongFalsely : Prop := fnExactAfterSearchRow.holds Try.pinned (OpenSpec.ofChange fnExactAfterSearchWrong)

/-- 'laws.FnExactLongMissing': WHATEVER THE INPUT: true; the input reads as it did. -/
def fnExactLongMissingSpec : ChangeSpec := { name := "fnExactLongMissing", fn := fun _ => fun
  | [d1, d2, d3] => { results := [.lit (.bool true)], args := [d1, d2, d3] }
  | _ => none }
def fnExactLongMissingRow : OpenClaim := { program := "ytjcmlloglnkbfaa", sum := "60192c2ed16661237d8d4c2216f74c571c2c83dbc64e1c14f94ce364da07a7b5", func := "loop.example/g00938/laws.FnExactLongMissing", spec := "fnExactLongMissing", apart := false }
def FnExactLongMissingSaid : Prop := fnExactLongMissingRow.holds Try.pinned (OpenSpec.ofChange fnExactLongMissingSpec)

/-- ITS FALSE NEIGHBOUR: 'it returns false'. Refute it at one input. -/
def fnExactLongMissingWrong : ChangeSpec := { name := "fnExactLongMissing", fn := fun _ => fun
  | [d1, d2, d3] => { results := [.lit (.bool false)], args := [d1, d2, d3] }
  | _ => none }
def FnExactLongMissingWrongFalsely : Prop := fnExactLongMissingRow.holds Try.pinned (OpenSpec.ofChange fnExactLongMissingWrong)

/-- 'laws.FnExactFoundChance': WHATEVER THE INPUT: true; the input reads as it did. -/
def fnExactFoundChanceSpec : ChangeSpec := { name := "fnExactFoundChance", fn := fun _ => fun
  | [d1, d2] => { results := [.lit (.bool true)], args := [d1, d2] }
  | _ => none }
def fnExactFoundChanceRow : OpenClaim := { program := "ytjcmlloglnkbfaa", sum := "60192c2ed16661237d8d4c2216f74c571c2c83dbc64e1c14f94ce364da07a7b5", func := "loop.example/g00938/laws.FnExactFoundChance", spec := "fnExactFoundChance", apart := false }
def FnExactFoundChanceSaid : Prop := fnExactFoundChanceRow.holds Try.pinned (OpenSpec.ofChange fnExactFoundChanceSpec)

/-- ITS FALSE NEIGHBOUR: 'it returns false'. Refute it at one input. -/
def fnExactFoundChanceWrong : ChangeSpec := { name := "fnExactFoundChance", fn := fun _ => fun
  | [d1, d2] => { results := [.lit (.bool false)], args := [d1, d2] }
  | _ => none }
def FnExactFoundChanceWrongFalsely : Prop := fnExactFoundChanceRow.holds Try.pinned (OpenSpec.ofChange fnExactFoundChanceWrong)

/-- 'laws.FnExactFirstIn': WHATEVER THE INPUT: true; the input reads as it did. -/
def fnExactFirstInSpec : ChangeSpec := { name := "fnExactFirstIn", fn := fun _ => fun
  | [d1, d2, d3, d4] => { results := [.lit (.bool true)], args := [d1, d2, d3, d4] }
  | _ => none }
def fnExactFirstInRow : OpenClaim := { program := "ytjcmlloglnkbfaa", sum := "60192c2ed16661237d8d4c2216f74c571c2c83dbc64e1c14f94ce364da07a7b5", func := "loop.example/g00938/laws.FnExactFirstIn", spec := "fnExactFirstIn", unfollowed := true, recurses := true, apart := false }
def FnExactFirstInSaid : Prop := fnExactFirstInRow.holds Try.pinned (OpenSpec.ofChange fnExactFirstInSpec)

/-- ITS FALSE NEIGHBOUR: 'it returns false'. Refute it at one input. -/
def fnExactFirstInWrong : ChangeSpec := { name := "fnExactFirstIn", fn := fun _ => fun
  | [d1, d2, d3, d4] => { results := [.lit (.bool false)], args := [d1, d2, d3, d4] }
  | _ => none }
def FnExactFirstInWrongFalsely : Prop := fnExactFirstInRow.holds Try.pinned (OpenSpec.ofChange fnExactFirstInWrong)

/-- 'laws.FnExactFieldOf': WHATEVER THE INPUT: true; the input reads as it did. -/
def fnExactFieldOfSpec : ChangeSpec := { name := "fnExactFieldOf", fn := fun _ => fun
  | [d1, d2, d3, d4] => { results := [.lit (.bool true)], args := [d1, d2, d3, d4] }
  | _ => none }
def fnExactFieldOfRow : OpenClaim := { program := "ytjcmlloglnkbfaa", sum := "60192c2ed16661237d8d4c2216f74c571c2c83dbc64e1c14f94ce364da07a7b5", func := "loop.example/g00938/laws.FnExactFieldOf", spec := "fnExactFieldOf", unfollowed := true, recurses := true, apart := false }
def FnExactFieldOfSaid : Prop := fnExactFieldOfRow.holds Try.pinned (OpenSpec.ofChange fnExactFieldOfSpec)

/-- ITS FALSE NEIGHBOUR: 'it returns false'. Refute it at one input. -/
def fnExactFieldOfWrong : ChangeSpec := { name := "fnExactFieldOf", fn := fun _ => fun
  | [d1, d2, d3, d4] => { results := [.lit (.bool false)], args := [d1, d2, d3, d4] }
  | _ => none }
def FnExactFieldOfWrongFalsely : Prop := fnExactFieldOfRow.holds Try.pinned (OpenSpec.ofChange fnExactFieldOfWrong)

/-- 'laws.FnExactBestSectors': WHATEVER THE INPUT: true; the input reads as it did. -/
def fnExactBestSectorsSpec : ChangeSpec := { name := "fnExactBestSectors", fn := fun _ => fun
  | [d1, d2] => { results := [.lit (.bool true)], args := [d1, d2] }
  | _ => none }
def fnExactBestSectorsRow : OpenClaim := { program := "ytjcmlloglnkbfaa", sum := "60192c2ed16661237d8d4c2216f74c571c2c83dbc64e1c14f94ce364da07a7b5", func := "loop.example/g00938/laws.FnExactBestSectors", spec := "fnExactBestSectors", unfollowed := true, recurses := true, apart := false }
def FnExactBestSectorsSaid : Prop := fnExactBestSectorsRow.holds Try.pinned (OpenSpec.ofChange fnExactBestSectorsSpec)

/-- ITS FALSE NEIGHBOUR: 'it returns false'. Refute it at one input. -/
def fnExactBestSectorsWrong : ChangeSpec := { name := "fnExactBestSectors", fn := fun _ => fun
  | [d1, d2] => { results := [.lit (.bool false)], args := [d1, d2] }
  | _ => none }
def FnExactBestSectorsWrongFalsely : Prop := fnExactBestSectorsRow.holds Try.pinned (OpenSpec.ofChange fnExactBestSectorsWrong)

/-- 'laws.FnExactChancesOf': WHATEVER THE INPUT: true; the input reads as it did. -/
def fnExactChancesOfSpec : ChangeSpec := { name := "fnExactChancesOf", fn := fun _ => fun
  | [d1, d2, d3, d4] => { results := [.lit (.bool true)], args := [d1, d2, d3, d4] }
  | _ => none }
def fnExactChancesOfRow : OpenClaim := { program := "ytjcmlloglnkbfaa", sum := "60192c2ed16661237d8d4c2216f74c571c2c83dbc64e1c14f94ce364da07a7b5", func := "loop.example/g00938/laws.FnExactChancesOf", spec := "fnExactChancesOf", unfollowed := true, recurses := true, apart := false }
def FnExactChancesOfSaid : Prop := fnExactChancesOfRow.holds Try.pinned (OpenSpec.ofChange fnExactChancesOfSpec)

/-- ITS FALSE NEIGHBOUR: 'it returns false'. Refute it at one input. -/
def fnExactChancesOfWrong : ChangeSpec := { name := "fnExactChancesOf", fn := fun _ => fun
  | [d1, d2, d3, d4] => { results := [.lit (.bool false)], args := [d1, d2, d3, d4] }
  | _ => none }
def FnExactChancesOfWrongFalsely : Prop := fnExactChancesOfRow.holds Try.pinned (OpenSpec.ofChange fnExactChancesOfWrong)

/-- 'laws.FnFields': WHATEVER THE INPUT: true; the input reads as it did. -/
def fnFieldsSpec : ChangeSpec := { name := "fnFields", fn := fun _ => fun
  | [d] => { results := [.lit (.bool true)], args := [d] }
  | _ => none }
def fnFieldsRow : OpenClaim := { program := "ytjcmlloglnkbfaa", sum := "60192c2ed16661237d8d4c2216f74c571c2c83dbc64e1c14f94ce364da07a7b5", func := "loop.example/g00938/laws.FnFields", spec := "fnFields", unfollowed := true, recurses := true, apart := false }
def FnFieldsSaid : Prop := fnFieldsRow.holds Try.pinned (OpenSpec.ofChange fnFieldsSpec)

/-- ITS FALSE NEIGHBOUR: 'it returns false'. Refute it at one input. -/
def fnFieldsWrong : ChangeSpec := { name := "fnFields", fn := fun _ => fun
  | [d] => { results := [.lit (.bool false)], args := [d] }
  | _ => none }
def FnFieldsWrongFalsely : Prop := fnFieldsRow.holds Try.pinned (OpenSpec.ofChange fnFieldsWrong)

/-- 'laws.FnSearches': WHATEVER THE INPUT: true; the input reads as it did. -/
def fnSearchesSpec : ChangeSpec := { name := "fnSearches", fn := fun _ => fun
  | [d] => { results := [.lit (.bool true)], args := [d] }
  | _ => none }
def fnSearchesRow : OpenClaim := { program := "ytjcmlloglnkbfaa", sum := "60192c2ed16661237d8d4c2216f74c571c2c83dbc64e1c14f94ce364da07a7b5", func := "loop.example/g00938/laws.FnSearches", spec := "fnSearches", unfollowed := true, recurses := true, apart := false }
def FnSearchesSaid : Prop := fnSearchesRow.holds Try.pinned (OpenSpec.ofChange fnSearchesSpec)

/-- ITS FALSE NEIGHBOUR: 'it returns false'. Refute it at one input. -/
def fnSearchesWrong : ChangeSpec := { name := "fnSearches", fn := fun _ => fun
  | [d] => { results := [.lit (.bool false)], args := [d] }
  | _ => none }
def FnSearchesWrongFalsely : Prop := fnSearchesRow.holds Try.pinned (OpenSpec.ofChange fnSearchesWrong)

/- THE SECOND FORM. 'bulk': how many values and letters a reading holds, each counted each time it is reached (what is shared counts as often as it is met; a slice's spare places count too). A statement '..UptoSaid' is the law's where the arguments, and the package variables that the reading takes, are together of bulk at most 1048576: NARROWER than '..Said'. Prove '..Said' where nothing that the law and all that it calls make is longer than what came in: it says more and counts as full. Else prove '..UptoSaid'. A law counts once. -/
mutual
def uptoBulk {H : Type} : DataW H → Nat
  | .lit (.string bytes) => bytes.length + 1
  | .lit _ => 1
  | .nil => 1
  | .ptr d => uptoBulk d + 1
  | .slice elems spare => uptoBulkAll elems + uptoBulkAll spare + 1
  | .agg parts => uptoBulkAll parts + 1
  | .iface _ d => uptoBulk d + 1
  | .map entries => uptoBulkEntries entries + 1
  | .held _ => 1
def uptoBulkAll {H : Type} : List (DataW H) → Nat
  | [] => 0
  | d :: r => uptoBulk d + uptoBulkAll r
def uptoBulkEntries {H : Type} : List (Lit × DataW H) → Nat
  | [] => 0
  | x :: r => uptoBulkEntry x + uptoBulkEntries r
def uptoBulkEntry {H : Type} : Lit × DataW H → Nat
  | (.string bytes, d) => bytes.length + uptoBulk d + 1
  | (_, d) => uptoBulk d + 1
 end
def uptoSmall : (H : Type) → List (DataW H) → Bool := fun _ ds => decide (uptoBulkAll ds ≤ 1048576)
def OpenSpec.upto (s : _root_.Go.ChangeSpec) : _root_.Go.OpenSpec := { _root_.Go.OpenSpec.ofChange s with cond := some uptoSmall }

/-- 'laws.FnExactIsMissing', WHERE WHAT IT READS IS OF BULK AT MOST 1048576: true; the input reads as it did. -/
def fnExactIsMissingUptoRow : OpenClaim := { program := "ytjcmlloglnkbfaa", sum := "60192c2ed16661237d8d4c2216f74c571c2c83dbc64e1c14f94ce364da07a7b5", func := "loop.example/g00938/laws.FnExactIsMissing", spec := "fnExactIsMissing", unfollowed := true, recurses := true, apart := false, narrowed := true }
def FnExactIsMissingUptoSaid : Prop := fnExactIsMissingUptoRow.holds Try.pinned (OpenSpec.upto fnExactIsMissingSpec)

/-- 'laws.FnExactAfterSearch', WHERE WHAT IT READS IS OF BULK AT MOST 1048576: true; the input reads as it did. -/
def fnExactAfterSearchUptoRow : OpenClaim := { program := "ytjcmlloglnkbfaa", sum := "60192c2ed16661237d8d4c2216f74c571c2c83dbc64e1c14f94ce364da07a7b5", func := "loop.example/g00938/laws.FnExactAfterSearch", spec := "fnExactAfterSearch", unfollowed := true, recurses := true, apart := false, narrowed := true }
def FnExactAfterSearchUptoSaid : Prop := fnExactAfterSearchUptoRow.holds Try.pinned (OpenSpec.upto fnExactAfterSearchSpec)

/-- 'laws.FnExactLongMissing', WHERE WHAT IT READS IS OF BULK AT MOST 1048576: true; the input reads as it did. -/
def fnExactLongMissingUptoRow : OpenClaim := { program := "ytjcmlloglnkbfaa", sum := "60192c2ed16661237d8d4c2216f74c571c2c83dbc64e1c14f94ce364da07a7b5", func := "loop.example/g00938/laws.FnExactLongMissing", spec := "fnExactLongMissing", apart := false, narrowed := true }
def FnExactLongMissingUptoSaid : Prop := fnExactLongMissingUptoRow.holds Try.pinned (OpenSpec.upto fnExactLongMissingSpec)

/-- 'laws.FnExactFoundChance', WHERE WHAT IT READS IS OF BULK AT MOST 1048576: true; the input reads as it did. -/
def fnExactFoundChanceUptoRow : OpenClaim := { program := "ytjcmlloglnkbfaa", sum := "60192c2ed16661237d8d4c2216f74c571c2c83dbc64e1c14f94ce364da07a7b5", func := "loop.example/g00938/laws.FnExactFoundChance", spec := "fnExactFoundChance", apart := false, narrowed := true }
def FnExactFoundChanceUptoSaid : Prop := fnExactFoundChanceUptoRow.holds Try.pinned (OpenSpec.upto fnExactFoundChanceSpec)

/-- 'laws.FnExactFirstIn', WHERE WHAT IT READS IS OF BULK AT MOST 1048576: true; the input reads as it did. -/
def fnExactFirstInUptoRow : OpenClaim := { program := "ytjcmlloglnkbfaa", sum := "60192c2ed16661237d8d4c2216f74c571c2c83dbc64e1c14f94ce364da07a7b5", func := "loop.example/g00938/laws.FnExactFirstIn", spec := "fnExactFirstIn", unfollowed := true, recurses := true, apart := false, narrowed := true }
def FnExactFirstInUptoSaid : Prop := fnExactFirstInUptoRow.holds Try.pinned (OpenSpec.upto fnExactFirstInSpec)

/-- 'laws.FnExactFieldOf', WHERE WHAT IT READS IS OF BULK AT MOST 1048576: true; the input reads as it did. -/
def fnExactFieldOfUptoRow : OpenClaim := { program := "ytjcmlloglnkbfaa", sum := "60192c2ed16661237d8d4c2216f74c571c2c83dbc64e1c14f94ce364da07a7b5", func := "loop.example/g00938/laws.FnExactFieldOf", spec := "fnExactFieldOf", unfollowed := true, recurses := true, apart := false, narrowed := true }
def FnExactFieldOfUptoSaid : Prop := fnExactFieldOfUptoRow.holds Try.pinned (OpenSpec.upto fnExactFieldOfSpec)

/-- 'laws.FnExactBestSectors', WHERE WHAT IT READS IS OF BULK AT MOST 1048576: true; the input reads as it did. -/
def fnExactBestSectorsUptoRow : OpenClaim := { program := "ytjcmlloglnkbfaa", sum := "60192c2ed16661237d8d4c2216f74c571c2c83dbc64e1c14f94ce364da07a7b5", func := "loop.example/g00938/laws.FnExactBestSectors", spec := "fnExactBestSectors", unfollowed := true, recurses := true, apart := false, narrowed := true }
def FnExactBestSectorsUptoSaid : Prop := fnExactBestSectorsUptoRow.holds Try.pinned (OpenSpec.upto fnExactBestSectorsSpec)

/-- 'laws.FnExactChancesOf', WHERE WHAT IT READS IS OF BULK AT MOST 1048576: true; the input reads as it did. -/
def fnExactChancesOfUptoRow : OpenClaim := { program := "ytjcmlloglnkbfaa", sum := "60192c2ed16661237d8d4c2216f74c571c2c83dbc64e1c14f94ce364da07a7b5", func := "loop.example/g00938/laws.FnExactChancesOf", spec := "fnExactChancesOf", unfollowed := true, recurses := true, apart := false, narrowed := true }
def FnExactChancesOfUptoSaid : Prop := fnExactChancesOfUptoRow.holds Try.pinned (OpenSpec.upto fnExactChancesOfSpec)

/-- 'laws.FnFields', WHERE WHAT IT READS IS OF BULK AT MOST 1048576: true; the input reads as it did. -/
def fnFieldsUptoRow : OpenClaim := { program := "ytjcmlloglnkbfaa", sum := "60192c2ed16661237d8d4c2216f74c571c2c83dbc64e1c14f94ce364da07a7b5", func := "loop.example/g00938/laws.FnFields", spec := "fnFields", unfollowed := true, recurses := true, apart := false, narrowed := true }
def FnFieldsUptoSaid : Prop := fnFieldsUptoRow.holds Try.pinned (OpenSpec.upto fnFieldsSpec)

/-- 'laws.FnSearches', WHERE WHAT IT READS IS OF BULK AT MOST 1048576: true; the input reads as it did. -/
def fnSearchesUptoRow : OpenClaim := { program := "ytjcmlloglnkbfaa", sum := "60192c2ed16661237d8d4c2216f74c571c2c83dbc64e1c14f94ce364da07a7b5", func := "loop.example/g00938/laws.FnSearches", spec := "fnSearches", unfollowed := true, recurses := true, apart := false, narrowed := true }
def FnSearchesUptoSaid : Prop := fnSearchesUptoRow.holds Try.pinned (OpenSpec.upto fnSearchesSpec)

end Rows
end Go.Proofs.Ytjcmlloglnkbfaa
