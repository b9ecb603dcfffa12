/- Trees and costs in the laws' own words: copies, comparisons, marks, sizes. -/
import Derived.Test.YtlaochpkelbchaaDoorWTree
import Derived.Test.YtlaochpkelbchaaDoorKit2
namespace Go.Proofs.YtlaochpkelbchaaDoor
open Go.RowKit
set_option maxHeartbeats 400000
end Go.Proofs.YtlaochpkelbchaaDoor
