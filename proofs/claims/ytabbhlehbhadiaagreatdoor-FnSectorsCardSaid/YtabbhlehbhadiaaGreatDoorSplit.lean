/- The reference's text cut at a byte. -/
import Derived.Test.YtabbhlehbhadiaaGreatDoorList
import Derived.Test.YtabbhlehbhadiaaGreatDoorMark
namespace Go.Proofs.YtabbhlehbhadiaaGreatDoor
open Go.RowKit Go.Sort
set_option linter.unusedVariables false
set_option maxRecDepth 100000

def cutB (c : UInt8) (l : List UInt8) : List ByteArray := (cutAt c l).map bs
theorem ext_bs (s : ByteArray) (f k : Nat) : s.extract f k = bs ((s.data.toList.drop f).take (k - f)) := by
  have h := Lib.extract_data s f k
  rw [← bs_self (s.extract f k)]
  congr 1
theorem data_get (s : ByteArray) (k : Nat) (h : k < s.size) : s.data.toList[k]'(by simpa using h) = s[k] := by
  rw [Array.getElem_toList]; rfl
theorem cutAt_here {c : UInt8} {l : List UInt8} {f k : Nat} (hf : f ≤ k) (hk : k < l.length) (hn : c ∉ (l.drop f).take (k - f)) (hc : l[k] = c) : cutAt c (l.drop f) = (l.drop f).take (k - f) :: cutAt c (l.drop (k + 1)) := by
  have e : l.drop f = (l.drop f).take (k - f) ++ c :: l.drop (k + 1) := by
    have h1 : (l.drop f).drop (k - f) = c :: l.drop (k + 1) := by
      rw [List.drop_drop, show f + (k - f) = k by omega, List.drop_eq_getElem_cons hk, hc]
    rw [← h1, List.take_append_drop]
  conv => lhs; rw [e]
  exact cutAt_app c _ _ hn
theorem take_more {l : List UInt8} {f k : Nat} (hf : f ≤ k) (hk : k < l.length) : (l.drop f).take (k + 1 - f) = (l.drop f).take (k - f) ++ [l[k]] := by
  rw [show k + 1 - f = (k - f) + 1 by omega, List.take_add_one, List.getElem?_drop, show f + (k - f) = k by omega, List.getElem?_eq_getElem hk]; rfl
end Go.Proofs.YtabbhlehbhadiaaGreatDoor
namespace Go.Proofs.YtabbhlehbhadiaaGreatDoor
open Go.RowKit Go.Sort
set_option linter.unusedVariables false
set_option maxRecDepth 100000

def numV (l : List UInt8) : Int := (numL l).getD 0
def numB (l : List UInt8) : Bool := (numL l).isSome
theorem num_none {l : List UInt8} (h : numL l = none) : numV l = 0 ∧ numB l = false := by simp [numV, numB, h]
theorem num_some {l : List UInt8} {v : Int} (h : numL l = some v) : numV l = v ∧ numB l = true := by simp [numV, numB, h]
theorem numV_i64 (l : List UInt8) : I64 (numV l) := by
  cases h : numL l with
  | none => rw [(num_none h).1]; unfold I64; omega
  | some v => rw [(num_some h).1]; have := numL_i64 h; unfold I64; omega
theorem num_of_true {l : List UInt8} (h : numB l = true) : numL l = some (numV l) := by
  cases h2 : numL l with
  | none => rw [(num_none h2).2] at h; cases h
  | some v => rw [(num_some h2).1]
/-- the sign's place -/
def negB (l : List UInt8) : Bool := l.head? == some 45
theorem numL_neg {r : List UInt8} : numL (45 :: r) = (if r.head? = some 48 then none else Option.map (fun u : Nat => -(u : Int)) (numU r)) := by
  show (if (some 45 : Option UInt8) = some 45 then _ else _) = _
  rw [if_pos rfl]; rfl
theorem numL_pos {l : List UInt8} (h : l.head? ≠ some 45) : numL l = (if l.head? = some 48 ∧ 1 < l.length then none else Option.map (fun u : Nat => (u : Int)) (numU l)) := by
  unfold numL; rw [if_neg h]
theorem numU_long {l : List UInt8} (h : 18 < l.length) : numU l = none := by unfold numU; rw [if_pos (.inr h)]
theorem numU_mid {l : List UInt8} (h : l.length ≠ 0) (h2 : l.length ≤ 18) : numU l = dvals 0 l := by unfold numU; rw [if_neg (by omega)]
theorem digit_yes {c : UInt8} (h : digitB c = true) : 48 ≤ c.toNat ∧ c.toNat ≤ 57 := by
  simp only [digitB, decide_eq_true_eq] at h; omega
theorem dvals_yes {n : Nat} {c : UInt8} {l : List UInt8} (h : digitB c = true) : dvals n (c :: l) = dvals (10 * n + (c.toNat - 48)) l := by
  rw [dvals, if_pos (digit_yes h)]
theorem dvals_not {n : Nat} {c : UInt8} {l : List UInt8} (h : digitB c = false) : dvals n (c :: l) = none := by
  have h2 : ¬ (48 ≤ c.toNat ∧ c.toNat ≤ 57) := by intro e; simp only [digitB, decide_eq_false_iff_not] at h; omega
  rw [dvals, if_neg h2]
def NumPost (l : List UInt8) (w : World) (e : Ending) (w' : World) : Prop := e = .returned (.tuple #[.int .i64 (numV l), .bool (numB l)]) ∧ w = w'
end Go.Proofs.YtabbhlehbhadiaaGreatDoor
