/- Tides: copy, size, equality. -/
import Derived.Test.YtjibilibdjfdcaaTInt64
namespace Go.Proofs.Ytjibilibdjfdcaa
open Go.RowKit
set_option maxRecDepth 100000

end Go.Proofs.Ytjibilibdjfdcaa
