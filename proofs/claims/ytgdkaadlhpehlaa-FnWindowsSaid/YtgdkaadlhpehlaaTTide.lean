/- Tides: copy, size, equality. -/
import Derived.Test.YtgdkaadlhpehlaaTInt64
namespace Go.Proofs.Ytgdkaadlhpehlaa
open Go.RowKit
set_option maxRecDepth 100000

end Go.Proofs.Ytgdkaadlhpehlaa
