/- The text of a work, both sides. -/
import Derived.Test.YtabbhlehbhadiaaGreatDoorPointT
import Derived.Test.YtabbhlehbhadiaaGreatDoorShipT
import Derived.Deep.RegionHeld3
namespace Go.Proofs.YtabbhlehbhadiaaGreatDoor
open Go.RowKit Go.Sort
set_option linter.unusedVariables false
set_option maxRecDepth 100000

def workT (s : ByteArray) (x y a b c d : Int) : List UInt8 := s.data.toList ++ 32 :: (pointL x y ++ 32 :: listL [a, b, c, d])
def workR (s : ByteArray) (x y a b c d : Int) : ByteArray := if workB s x y a b c d then bs (workT s x y a b c d) else ⟨#[]⟩
theorem work_cat (s : ByteArray) (p l : List UInt8) : s ++ (⟨#[32]⟩ : ByteArray) ++ bs p ++ (⟨#[32]⟩ : ByteArray) ++ bs l = bs (s.data.toList ++ 32 :: (p ++ 32 :: l)) := by
  have e : (⟨#[32]⟩ : ByteArray) = bs [32] := rfl
  rw [← bs_self s, e, bs_app, bs_app, bs_app, bs_app]; simp [bs]
theorem big_no {n : Nat} (h : n ≤ 9000000000000000000) : ¬ (9223372036854775807 < n) ∧ ¬ (9223372036854775807 ≤ n) := by omega
theorem work_fits {s : ByteArray} {x y a b c d : Int} (h : workB s x y a b c d = true) : fitsB [a, b, c, d] = true ∧ pointB x y = true ∧ (s.size : Int) ≤ 10 := by
  simp only [workB, Bool.and_eq_true] at h
  obtain ⟨⟨⟨⟨⟨h0, hp⟩, h1⟩, h2⟩, h3⟩, h4⟩ := h
  have e1 := inB_true h1
  have e2 := inB_true h2
  have e3 := inB_true h3
  have e4 := inB_true h4
  have e0 : (s.size : Int) ≤ 10 := by simp only [nameB, Bool.and_eq_true, decide_eq_true_eq] at h0; exact h0.1.1.2
  refine ⟨?_, hp, e0⟩
  simp [fitsB, inB]; omega
end Go.Proofs.YtabbhlehbhadiaaGreatDoor
