/- Copies of a list of numbers, on both sides. -/
import Derived.Test.YtocpgnpdnoidnaaDoorPush
import Derived.Test.YtocpgnpdnoidnaaDoorTInt64
namespace Go.Proofs.YtocpgnpdnoidnaaDoor
open Go.RowKit Go.Sort
set_option maxRecDepth 100000
end Go.Proofs.YtocpgnpdnoidnaaDoor
