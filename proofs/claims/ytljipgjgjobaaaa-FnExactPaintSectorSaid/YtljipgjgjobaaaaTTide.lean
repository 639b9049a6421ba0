/- Tides: copy, size, equality. -/
import Derived.Test.YtljipgjgjobaaaaTInt64
namespace Go.Proofs.Ytljipgjgjobaaaa
open Go.RowKit
set_option maxRecDepth 100000

end Go.Proofs.Ytljipgjgjobaaaa
