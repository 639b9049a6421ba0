/- The text of a point, both sides. -/
import Derived.Test.YtabbhlehbhadiaaGreatDoorList
import Derived.Test.YtabbhlehbhadiaaGreatDoorTWork
import Derived.Deep.RegionHeld3
namespace Go.Proofs.YtabbhlehbhadiaaGreatDoor
open Go.RowKit Go.Sort
set_option linter.unusedVariables false
set_option maxRecDepth 100000

def pointL (x y : Int) : List UInt8 := Lib.itoa x ++ 44 :: Lib.itoa y
theorem two_cat (c : UInt8) (a b : List UInt8) : bs a ++ (⟨#[c]⟩ : ByteArray) ++ bs b = bs (a ++ c :: b) := by
  have e : (⟨#[c]⟩ : ByteArray) = bs [c] := rfl
  rw [e, bs_app, bs_app]; simp
theorem pointL_size {x y : Int} (hx : I64 x) (hy : I64 y) : (bs (pointL x y)).size ≤ 43 := by
  have h1 := Lib.itoa_length_le x hx.1 hx.2
  have h2 := Lib.itoa_length_le y hy.1 hy.2
  rw [bs_size, pointL, List.length_append, List.length_cons]; omega
def pointR (x y : Int) : ByteArray := if pointB x y then bs (pointL x y) else ⟨#[]⟩
theorem pointR_ok {x y : Int} (h : pointB x y = true) : pointR x y = bs (pointL x y) := by rw [pointR, if_pos h]
theorem pointR_no {x y : Int} (h : pointB x y = false) : pointR x y = ⟨#[]⟩ := by rw [pointR, h]; rfl
end Go.Proofs.YtabbhlehbhadiaaGreatDoor
