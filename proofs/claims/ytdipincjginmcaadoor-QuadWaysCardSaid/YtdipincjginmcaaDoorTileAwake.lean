/- The small example of layer 4. -/
import Derived.Test.YtdipincjginmcaaDoorTileDown
import Derived.Test.YtdipincjginmcaaDoorRefOver
namespace Go.Proofs.YtdipincjginmcaaDoor
open Go.RowKit

end Go.Proofs.YtdipincjginmcaaDoor
