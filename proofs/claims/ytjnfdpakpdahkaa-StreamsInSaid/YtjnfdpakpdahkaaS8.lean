/- The cutter: made, numbers, bytes, the rest. -/
import Derived.Test.YtjnfdpakpdahkaaS7
namespace Go.Proofs.Ytjnfdpakpdahkaa
open Go.RowKit
set_option maxRecDepth 100000
end Go.Proofs.Ytjnfdpakpdahkaa
