/- Contracts of the library: none is needed here. -/
import Derived.Test.YtkchdhmnomelkaaGreatBase
namespace Go.Proofs.YtkchdhmnomelkaaGreat
end Go.Proofs.YtkchdhmnomelkaaGreat
