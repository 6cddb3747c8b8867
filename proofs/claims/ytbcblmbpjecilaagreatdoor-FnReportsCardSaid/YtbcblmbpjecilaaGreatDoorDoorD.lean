/- What a row that lists tables of Go's library needs. -/
import Derived.Test.YtbcblmbpjecilaaGreatDoorRows
import Derived.Test.YtbcblmbpjecilaaGreatDoorBase
import Derived.Deep.DeepHandedRow
import Derived.JoinedCond
import Derived.LaidMore
import Derived.Lib.LaidTab
import Derived.SevenTiedAt
import Derived.Stop.Joined
import Derived.ProofKit
namespace Go.Proofs.YtbcblmbpjecilaaGreatDoor
open Go.ChangeShapes Go.WideShapes Go.ChangeAt Go.RowKit

theorem reads_of {α β γ : Type} {o : Option (α × List β × γ)} (h : (o.any fun x => x.2.1.isEmpty) = true) : ∃ a c, o = some (a, [], c) := by
  match o, h with
  | some (a, [], c), _ => exact ⟨a, c, rfl⟩

end Go.Proofs.YtbcblmbpjecilaaGreatDoor
