/- The law's marks of entrants. -/
import Derived.Test.YtlhebjlibhpanaaDoorEntT
namespace Go.Proofs.YtlhebjlibhpanaaDoor
open Go.RowKit

end Go.Proofs.YtlhebjlibhpanaaDoor
