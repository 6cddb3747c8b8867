/- Contracts of the library: none is needed here. -/
import Derived.Test.YtmhfhmjnffjflaaBase
namespace Go.Proofs.Ytmhfhmjnffjflaa
end Go.Proofs.Ytmhfhmjnffjflaa
