/- Tides: copy, size, equality. -/
import Derived.Test.YtabbhlehbhadiaaDoorTInt64
namespace Go.Proofs.YtabbhlehbhadiaaDoor
open Go.RowKit
set_option maxRecDepth 100000

end Go.Proofs.YtabbhlehbhadiaaDoor
