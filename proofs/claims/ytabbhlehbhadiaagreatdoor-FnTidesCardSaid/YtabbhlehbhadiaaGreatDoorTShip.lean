/- Ship: its data, how it reads, its copy, size and equality; slices of it. Printed by wip/gen.py. -/
import Derived.Test.YtabbhlehbhadiaaGreatDoorNames
import Derived.Test.YtabbhlehbhadiaaGreatDoorSl
import Derived.StillTailTactics
namespace Go.Proofs.YtabbhlehbhadiaaGreatDoor
open Go.RowKit
set_option maxRecDepth 100000

structure ShipD where
  fName : ByteArray
  fSpeed : Int
  fLoad : Int
  fDraught : Int
def encShip (d : ShipD) : List Value := [.string d.fName, .int .i64 d.fSpeed, .int .i64 d.fLoad, .int .i64 d.fDraught]
def okShip (d : ShipD) : Prop := d.fName.size ≤ maxLen ∧ I64 d.fSpeed ∧ I64 d.fLoad ∧ I64 d.fDraught
theorem lenShip (d : ShipD) : (encShip d).length = 4 := rfl

def sizeShip (d : ShipD) : Int := (d.fName.size : Int)
theorem sizeShip_nn (d : ShipD) : 0 ≤ sizeShip d := by unfold sizeShip; omega
end Go.Proofs.YtabbhlehbhadiaaGreatDoor
namespace Go.Proofs.YtabbhlehbhadiaaGreatDoor
open Go.RowKit

def shipB (s : ByteArray) (a b c : Int) : Bool := nameB s && inB a 1 2000 && inB b 0 1000 && inB c 1 200




end Go.Proofs.YtabbhlehbhadiaaGreatDoor
