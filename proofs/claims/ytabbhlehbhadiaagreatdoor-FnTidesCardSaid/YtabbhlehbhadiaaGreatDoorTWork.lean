/- Work: its data, how it reads, its copy, size and equality; slices of it. Printed by wip/gen.py. -/
import Derived.Test.YtabbhlehbhadiaaGreatDoorNames
import Derived.Test.YtabbhlehbhadiaaGreatDoorSl
import Derived.StillTailTactics
import Derived.Test.YtabbhlehbhadiaaGreatDoorTPoint
namespace Go.Proofs.YtabbhlehbhadiaaGreatDoor
open Go.RowKit
set_option maxRecDepth 100000

structure WorkD where
  fName : ByteArray
  fAtX : Int
  fAtY : Int
  fLoad : Int
  fMinutes : Int
  fFrom : Int
  fUntil : Int
def encWork (d : WorkD) : List Value := [.string d.fName, .int .i64 d.fAtX, .int .i64 d.fAtY, .int .i64 d.fLoad, .int .i64 d.fMinutes, .int .i64 d.fFrom, .int .i64 d.fUntil]
def okWork (d : WorkD) : Prop := d.fName.size ≤ maxLen ∧ I64 d.fAtX ∧ I64 d.fAtY ∧ I64 d.fLoad ∧ I64 d.fMinutes ∧ I64 d.fFrom ∧ I64 d.fUntil
theorem lenWork (d : WorkD) : (encWork d).length = 7 := rfl

def sizeWork (d : WorkD) : Int := (d.fName.size : Int)
theorem sizeWork_nn (d : WorkD) : 0 ≤ sizeWork d := by unfold sizeWork; omega
end Go.Proofs.YtabbhlehbhadiaaGreatDoor
namespace Go.Proofs.YtabbhlehbhadiaaGreatDoor
open Go.RowKit
set_option maxRecDepth 100000

def pointB (x y : Int) : Bool := inB x 0 200000 && inB y 0 200000

def workB (name : ByteArray) (x y load minutes start stop : Int) : Bool :=
  nameB name && pointB x y && inB load 0 1000 && inB minutes 1 600 && inB start 0 4320 && inB stop (start + minutes) 4320
end Go.Proofs.YtabbhlehbhadiaaGreatDoor
