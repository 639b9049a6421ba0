/- Item: its data, how it reads, its copy, size and equality; slices of it. Printed by wip/gen.py. -/
import Derived.Test.YtabbhlehbhadiaaDoorNames
import Derived.Test.YtabbhlehbhadiaaDoorSl
import Derived.StillTailTactics
namespace Go.Proofs.YtabbhlehbhadiaaDoor
open Go.RowKit
set_option maxRecDepth 100000

structure ItemD where
  fKey : ByteArray
  fText : ByteArray
def encItem (d : ItemD) : List Value := [.string d.fKey, .string d.fText]
def okItem (d : ItemD) : Prop := d.fKey.size ≤ maxLen ∧ d.fText.size ≤ maxLen
theorem lenItem (d : ItemD) : (encItem d).length = 2 := rfl

def sizeItem (d : ItemD) : Int := (d.fKey.size : Int) + (d.fText.size : Int)
theorem sizeItem_nn (d : ItemD) : 0 ≤ sizeItem d := by unfold sizeItem; omega
end Go.Proofs.YtabbhlehbhadiaaDoor
