/- Copies of a list of numbers, on both sides. -/
import Derived.Test.YtfnfkpmkppkleaaDoorPush
import Derived.Test.YtfnfkpmkppkleaaDoorTInt64
namespace Go.Proofs.YtfnfkpmkppkleaaDoor
open Go.RowKit Go.Sort
set_option maxRecDepth 100000
end Go.Proofs.YtfnfkpmkppkleaaDoor
