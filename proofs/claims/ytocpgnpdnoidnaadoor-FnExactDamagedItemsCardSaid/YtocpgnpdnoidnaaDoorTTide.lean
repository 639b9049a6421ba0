/- Tides: copy, size, equality. -/
import Derived.Test.YtocpgnpdnoidnaaDoorTInt64
namespace Go.Proofs.YtocpgnpdnoidnaaDoor
open Go.RowKit
set_option maxRecDepth 100000

end Go.Proofs.YtocpgnpdnoidnaaDoor
