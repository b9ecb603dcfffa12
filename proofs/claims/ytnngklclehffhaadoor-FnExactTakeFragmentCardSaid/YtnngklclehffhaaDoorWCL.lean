/- Trees and costs in the laws' own words: copies, comparisons, marks, sizes. -/
import Derived.Test.YtnngklclehffhaaDoorWTree
import Derived.Test.YtnngklclehffhaaDoorKit2
namespace Go.Proofs.YtnngklclehffhaaDoor
open Go.RowKit
set_option maxHeartbeats 400000
end Go.Proofs.YtnngklclehffhaaDoor
