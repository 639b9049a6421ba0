/- What the rows' listed variables give a walk. -/
import Derived.Test.YtabbhlehbhadiaaGreatDoorList
import Derived.Test.YtabbhlehbhadiaaGreatDoorTie
import Derived.Test.YtabbhlehbhadiaaGreatDoorCards
import Derived.LaidMore
import Derived.Lay
import Derived.SevenTiedAt
import Derived.Stop.Joined
import Derived.Stop.LaidErr
import Derived.Lib.LaidTab
namespace Go.Proofs.YtabbhlehbhadiaaGreatDoor
open Go.RowKit Go.Sort
set_option maxRecDepth 100000

theorem pow_laid : (Rows.laid_internal_strconv_uint64pow10 : DataW Unit) = Lib.tabData .u64 Lib.pow10Tab := by kernel_rfl
theorem pow_of_met {W : World} {a b : String × DataW Unit} {rest : List (String × DataW Unit)} (h : laidMet Tryz.prog (a :: b :: ("internal/strconv.uint64pow10", Rows.laid_internal_strconv_uint64pow10) :: rest) W) : Pow W := by
  have h2 := h.tail.tail
  rw [pow_laid] at h2
  exact Lib.tabIs_of_head pow_named (show (Tryz.prog.globals[3]?).map (·.type) = some 154 by kernel_rfl) Tryz.underlying154 Tryz.underlying94 (by kernel_rfl) (by kernel_rfl) h2
/-! ### closed facts on the program, once for all rows of the seat -/
def blank : OpenClaim := { program := "", sum := "", func := "", spec := "" }
theorem pf_stopsHeard : Tryz.prog.stopsHeard = true := by kernel_rfl
theorem pf_mayEnter : Tryz.prog.mayEnter = true := by kernel_rfl
theorem pf_lifted : (blank.lifted == Tryz.prog.liftsFinal) = true := by kernel_rfl
theorem pf_plainKeys : (blank.plainKeys == Tryz.prog.plainKeys) = true := by kernel_rfl
theorem pf_laidOut : laidOutB Tryz.prog = true := by kernel_rfl
theorem pf_mapsRowed : mapsRowed Tryz.prog = true := by kernel_rfl
end Go.Proofs.YtabbhlehbhadiaaGreatDoor
