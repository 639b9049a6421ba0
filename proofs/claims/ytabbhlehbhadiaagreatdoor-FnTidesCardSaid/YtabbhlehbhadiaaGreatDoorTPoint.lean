/- Point: its data, how it reads, its copy, size and equality; slices of it. Printed by wip/gen.py. -/
import Derived.Test.YtabbhlehbhadiaaGreatDoorNames
import Derived.Test.YtabbhlehbhadiaaGreatDoorSl
import Derived.StillTailTactics
namespace Go.Proofs.YtabbhlehbhadiaaGreatDoor
open Go.RowKit
set_option maxRecDepth 100000

structure PointD where
  fX : Int
  fY : Int
def encPoint (d : PointD) : List Value := [.int .i64 d.fX, .int .i64 d.fY]
def okPoint (d : PointD) : Prop := I64 d.fX ∧ I64 d.fY
theorem lenPoint (d : PointD) : (encPoint d).length = 2 := rfl

end Go.Proofs.YtabbhlehbhadiaaGreatDoor
