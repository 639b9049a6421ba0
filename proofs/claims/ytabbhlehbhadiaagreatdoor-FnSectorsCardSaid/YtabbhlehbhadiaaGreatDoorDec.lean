/- The numeral: the reference's own loop. -/
import Derived.Test.YtabbhlehbhadiaaGreatDoorTextP
import Derived.Test.YtabbhlehbhadiaaGreatDoorMark
import Derived.Laws.IdiomStrings
namespace Go.Proofs.YtabbhlehbhadiaaGreatDoor
open Go.RowKit Go.Sort
set_option linter.unusedVariables false
set_option maxRecDepth 100000

def encB (b : UInt8) : List Value := [.int .u8 (b.toNat : Int)]
theorem one_encB (y : UInt8) : ∀ u ∈ encB y, u.oneCell' = true := by intro u hu; simp only [encB, List.mem_singleton] at hu; subst hu; rfl
theorem one_uint8 (y : UInt8) : ∀ u ∈ encB y, u.oneCell' = true := one_encB y
theorem info_uint8 : (Tryz.prog.info? 5).map (fun i => (i.zero, i.size, i.bytes)) = some (some (.int .u8 0), 1, 1) := by kernel_rfl
end Go.Proofs.YtabbhlehbhadiaaGreatDoor
