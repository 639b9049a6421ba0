/- Ships: the checks of both sides, the copy, the size. -/
import Derived.Test.YtocpgnpdnoidnaaDoorTShip
namespace Go.Proofs.YtocpgnpdnoidnaaDoor
open Go.RowKit

def shipB (s : ByteArray) (a b c : Int) : Bool := nameB s && inB a 1 2000 && inB b 0 1000 && inB c 1 200




end Go.Proofs.YtocpgnpdnoidnaaDoor
