/- What the rows' listed variables give a walk. -/
import Derived.Test.YtabbhlehbhadiaaDoorList
import Derived.Test.YtabbhlehbhadiaaDoorTie
import Derived.Test.YtabbhlehbhadiaaDoorCards
import Derived.LaidMore
import Derived.Lay
import Derived.SevenTiedAt
import Derived.Stop.Joined
import Derived.Stop.LaidErr
import Derived.Lib.LaidTab
namespace Go.Proofs.YtabbhlehbhadiaaDoor
open Go.RowKit Go.Sort
set_option maxRecDepth 100000

theorem pow_laid : (Rows.laid_internal_strconv_uint64pow10 : DataW Unit) = Lib.tabData .u64 Lib.pow10Tab := by kernel_rfl
theorem pow_of_met {W : World} {a b : String × DataW Unit} {rest : List (String × DataW Unit)} (h : laidMet Tryd.prog (a :: b :: ("internal/strconv.uint64pow10", Rows.laid_internal_strconv_uint64pow10) :: rest) W) : Pow W := by
  have h2 := h.tail.tail
  rw [pow_laid] at h2
  exact Lib.tabIs_of_head pow_named (show (Tryd.prog.globals[3]?).map (·.type) = some 113 by kernel_rfl) Tryd.underlying113 Tryd.underlying45 (by kernel_rfl) (by kernel_rfl) h2
/-! ### closed facts on the program, once for all rows of the seat -/
def blank : OpenClaim := { program := "", sum := "", func := "", spec := "" }
theorem pf_stopsHeard : Tryd.prog.stopsHeard = true := by kernel_rfl
theorem pf_mayEnter : Tryd.prog.mayEnter = true := by kernel_rfl
theorem pf_lifted : (blank.lifted == Tryd.prog.liftsFinal) = true := by kernel_rfl
theorem pf_plainKeys : (blank.plainKeys == Tryd.prog.plainKeys) = true := by kernel_rfl
theorem pf_laidOut : laidOutB Tryd.prog = true := by kernel_rfl
theorem pf_mapsRowed : mapsRowed Tryd.prog = true := by kernel_rfl
end Go.Proofs.YtabbhlehbhadiaaDoor
