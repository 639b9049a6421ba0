/- Equality of the plain data of aids is decided. Printed by wip/mkaideq.py. -/
import Derived.Test.YtjibilibdjfdcaaAidE0
namespace Go.Proofs.Ytjibilibdjfdcaa
open Go.RowKit Go.Sort
set_option linter.unusedVariables false
set_option maxRecDepth 100000

instance decAidP : DecidableEq AidP := @instDecidableEqProd (List Int) _ inferInstance (@instDecidableEqProd (List Int) _ inferInstance (@instDecidableEqProd (List (List UInt8)) (List (Int × Int × List UInt8)) inferInstance inferInstance))
end Go.Proofs.Ytjibilibdjfdcaa
