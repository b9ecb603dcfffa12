/- Trees and costs in the laws' own words: copies, comparisons, marks, sizes. -/
import Derived.Test.YtppdbnopgcjgjaaWTree
import Derived.Test.YtppdbnopgcjgjaaKit2
namespace Go.Proofs.Ytppdbnopgcjgjaa
open Go.RowKit
set_option maxHeartbeats 400000
end Go.Proofs.Ytppdbnopgcjgjaa
