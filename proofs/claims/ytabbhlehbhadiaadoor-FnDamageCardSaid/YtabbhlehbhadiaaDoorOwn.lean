/- Copies of a list of numbers, on both sides. -/
import Derived.Test.YtabbhlehbhadiaaDoorPush
import Derived.Test.YtabbhlehbhadiaaDoorTInt64
namespace Go.Proofs.YtabbhlehbhadiaaDoor
open Go.RowKit Go.Sort
set_option maxRecDepth 100000
end Go.Proofs.YtabbhlehbhadiaaDoor
