/- Tides: copy, size, equality. -/
import Derived.Test.YtmolcfagmiecjaaTInt64
namespace Go.Proofs.Ytmolcfagmiecjaa
open Go.RowKit
set_option maxRecDepth 100000

end Go.Proofs.Ytmolcfagmiecjaa
