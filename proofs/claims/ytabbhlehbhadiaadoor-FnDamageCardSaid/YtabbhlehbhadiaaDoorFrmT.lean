/- A frame of the archive's bytes, the reference's walk. Printed by wip/mkfrm.py. -/
import Derived.Test.YtabbhlehbhadiaaDoorFrm
import Derived.Test.YtabbhlehbhadiaaDoorDraw0
namespace Go.Proofs.YtabbhlehbhadiaaDoor
open Go.RowKit Go.Sort
set_option linter.unusedVariables false
set_option maxRecDepth 100000

def frV (p : Nat) : Option FrD × Int → Value
  | (some f, _) => .tuple #[.agg #[.string f.it.fKey, .string f.it.fText], .bool (!badB f), .int .i64 ((p + f.used : Nat) : Int), .int .i64 0]
  | (none, c) => .tuple #[.agg #[.string ⟨#[]⟩, .string ⟨#[]⟩], .bool false, .int .i64 0, .int .i64 c]
def FrmP (p : Nat) (o : Option FrD × Int) (w : World) (e : Ending) (w' : World) : Prop := Below w.heap.size w w' ∧ e = .returned (frV p o)
theorem frmP_none {p : Nat} {o : Option FrD × Int} {w w' : World} {c : Int} (hb : Below w.heap.size w w') (h : o = (none, c)) : FrmP p o w (.returned (.tuple #[.agg #[.string ⟨#[]⟩, .string ⟨#[]⟩], .bool false, .int .i64 0, .int .i64 c])) w' := ⟨hb, by rw [h]; rfl⟩
theorem frmP_some {p : Nat} {o : Option FrD × Int} {w w' : World} {f : FrD} {b : Bool} {n : Int} (hb : Below w.heap.size w w') (h : o = (some f, 0)) (h2 : b = !badB f) (h3 : n = ((p + f.used : Nat) : Int)) : FrmP p o w (.returned (.tuple #[.agg #[.string f.it.fKey, .string f.it.fText], .bool b, .int .i64 n, .int .i64 0])) w' := ⟨hb, by rw [h, h2, h3]; rfl⟩
theorem frm_none {p : Nat} {o : Option FrD × Int} {w w' : World} {e : Ending} {c : Int} (h : FrmP p o w e w') (ho : o = (none, c)) : Below w.heap.size w w' ∧ e = .returned (.tuple #[.agg #[.string ⟨#[]⟩, .string ⟨#[]⟩], .bool false, .int .i64 0, .int .i64 c]) := ⟨h.1, by have := h.2; rw [ho] at this; exact this⟩
theorem frm_some {p : Nat} {o : Option FrD × Int} {w w' : World} {e : Ending} {f : FrD} (h : FrmP p o w e w') (ho : o = (some f, 0)) : Below w.heap.size w w' ∧ e = .returned (.tuple #[.agg #[.string f.it.fKey, .string f.it.fText], .bool (!badB f), .int .i64 ((p + f.used : Nat) : Int), .int .i64 0]) := ⟨h.1, by have := h.2; rw [ho] at this; exact this⟩
theorem frN_no1 {a : ByteArray} {n c : Int} {rest : List UInt8} {base : Nat} : frN a n c false rest base = (none, 9) := rfl
theorem frN_no2 {a : ByteArray} {n c : Int} {rest : List UInt8} {base : Nat} (h : inB n 0 400 = false) : frN a n c true rest base = (none, 9) := by simp [frN, h]
theorem frN_no3 {a : ByteArray} {n c : Int} {ok : Bool} {rest : List UInt8} {base : Nat} (h : c < 0) : frN a n c ok rest base = (none, 9) := by
  have : decide (0 ≤ c) = false := decide_eq_false (by omega)
  simp [frN, this]
theorem frN_go {a : ByteArray} {n : Nat} {c : Int} {rest : List UInt8} {base : Nat} (h : n ≤ 400) (hc : 0 ≤ c) : frN a n c true rest base = frT a n c rest base := by
  have h1 : inB (n : Int) 0 400 = true := inB_of (by omega) (by omega)
  have h2 : decide (0 ≤ c) = true := decide_eq_true hc
  rw [frN, h1, h2]; rfl
theorem frW_three {rest : List UInt8} {base : Nat} {a b c : ByteArray} : frW rest base [a, b, c] = if nameB a then frN a (numV b.data.toList) (numV c.data.toList) (numB b.data.toList && numB c.data.toList) rest base else (none, 9) := rfl
theorem drop_get (s : ByteArray) (q m : Nat) (h : q + m < s.size) : (s.data.toList.drop q).getD m 0 = s[q + m] := by
  rw [List.getD_eq_getElem?_getD, List.getElem?_drop, List.getElem?_eq_getElem (by simpa using h), Option.getD_some]; exact data_get s _ h
end Go.Proofs.YtabbhlehbhadiaaDoor
