/- The reference's text cut at a byte. -/
import Derived.Test.YtabbhlehbhadiaaGreatDoorList
import Derived.Test.YtabbhlehbhadiaaGreatDoorOwn
namespace Go.Proofs.YtabbhlehbhadiaaGreatDoor
open Go.RowKit Go.Sort
set_option linter.unusedVariables false
set_option maxRecDepth 100000

def cutB (c : UInt8) (l : List UInt8) : List ByteArray := (cutAt c l).map bs
theorem ext_bs (s : ByteArray) (f k : Nat) : s.extract f k = bs ((s.data.toList.drop f).take (k - f)) := by
  have h := Lib.extract_data s f k
  rw [← bs_self (s.extract f k)]
  congr 1
theorem data_get (s : ByteArray) (k : Nat) (h : k < s.size) : s.data.toList[k]'(by simpa using h) = s[k] := by
  rw [Array.getElem_toList]; rfl
theorem cutAt_here {c : UInt8} {l : List UInt8} {f k : Nat} (hf : f ≤ k) (hk : k < l.length) (hn : c ∉ (l.drop f).take (k - f)) (hc : l[k] = c) : cutAt c (l.drop f) = (l.drop f).take (k - f) :: cutAt c (l.drop (k + 1)) := by
  have e : l.drop f = (l.drop f).take (k - f) ++ c :: l.drop (k + 1) := by
    have h1 : (l.drop f).drop (k - f) = c :: l.drop (k + 1) := by
      rw [List.drop_drop, show f + (k - f) = k by omega, List.drop_eq_getElem_cons hk, hc]
    rw [← h1, List.take_append_drop]
  conv => lhs; rw [e]
  exact cutAt_app c _ _ hn
theorem take_more {l : List UInt8} {f k : Nat} (hf : f ≤ k) (hk : k < l.length) : (l.drop f).take (k + 1 - f) = (l.drop f).take (k - f) ++ [l[k]] := by
  rw [show k + 1 - f = (k - f) + 1 by omega, List.take_add_one, List.getElem?_drop, show f + (k - f) = k by omega, List.getElem?_eq_getElem hk]; rfl
end Go.Proofs.YtabbhlehbhadiaaGreatDoor
