/- Tides: copy, size, equality. -/
import Derived.Test.YtabbhlehbhadiaaGreatDoorTInt64
namespace Go.Proofs.YtabbhlehbhadiaaGreatDoor
open Go.RowKit
set_option maxRecDepth 100000

end Go.Proofs.YtabbhlehbhadiaaGreatDoor
