/- The reference's bits of addresses. -/
import Derived.Test.YtcoonncedlbbkaaDoorA3
namespace Go.Proofs.YtcoonncedlbbkaaDoor
open Go.RowKit Ad
set_option maxRecDepth 100000
end Go.Proofs.YtcoonncedlbbkaaDoor
