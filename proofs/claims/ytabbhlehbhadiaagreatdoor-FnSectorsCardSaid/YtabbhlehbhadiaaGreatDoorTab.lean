/- Great literals: a slice of many constants and an array of many constants, without going through the parts. -/
import Derived.Test.YtabbhlehbhadiaaGreatDoorSl
import Derived.Laws.Tables
import Derived.Laws.NewFold
namespace Go.Proofs.YtabbhlehbhadiaaGreatDoor
open Go.RowKit Go.Sort
set_option maxRecDepth 100000

def builtS (P : Program) (e : TypeId) (len : Nat) (parts : List (Nat × Value)) : Option (Array Value) :=
  match P.info? e with
  | some ie => match ie.zero with
    | some z => if len * ie.size = 0 ∨ len * ie.size > 2 ^ 24 then none else Instr.fill (fun i => some (i * ie.size, ie.size)) ((Array.range (len * ie.size)).map (z.cells[· % z.cells.size]!)) parts
    | none => none
  | none => none
theorem run_buildSliceS {P : Program} (w : World) (t e : TypeId) (len : Nat) (parts : Array (Nat × Value)) (cells : Array Value) (hu : P.underlying t = some (.slice e)) (h : builtS P e len parts.toList = some cells) :
    (Instr.buildSlice t len parts).run P w = .ok (.slice (some ⟨w.heap.size, 0, none⟩) len len) (w.alloc (.cells cells e)) := by
  unfold builtS at h
  cases hi : P.info? e with
  | none => simp [hi] at h
  | some ie =>
    cases hz : ie.zero with
    | none => simp [hi, hz] at h
    | some z =>
      simp only [hi, hz] at h
      split at h
      · cases h
      · rename_i hn
        have h1 : ¬ len * ie.size = 0 := fun k => hn (.inl k)
        have h2 : ¬ len * ie.size > 2 ^ 24 := fun k => hn (.inr k)
        have hS : (sizeOf e).run P w = .ok ie.size w := by simp [sizeOf, typeInfo, hi]
        have hZ : (zeroValue e).run P w = .ok z w := by simp [zeroValue, typeInfo, hi, hz]
        simp only [Instr.buildSlice, Sem.run_bind, run_underlying hu, Result.andThen_ok, hS, if_neg h1, if_neg h2, Sem.run_pure, hZ, h]
        rfl
theorem wpList_buildSliceS {P : Program} {ops : Array Oper} {rest : List Oper} {o : Oper} {a : Act} {w : World} {Q : Exit → Act → World → Prop} (hg : o.guard = none) (t : TypeId) (len : Nat) (parts : Array (Nat × Operand)) (ho : o.op = .buildSlice t len parts)
    (e : TypeId) (hu : P.underlying t = some (.slice e)) (cells : Array Value) (hf : builtS P e len (parts.map fun (i, x) => (i, a.eval x)).toList = some cells)
    (h : wpList P ops Q rest (a.put o.dst (.slice (some ⟨w.heap.size, 0, none⟩) len len)) (w.alloc (.cells cells e))) : wpList P ops Q (o :: rest) a w :=
  wpList_plain hg fun _ hK => by
    unfold Oper.wp execOp
    simp only [ho, Sem.run_bind, run_buildSliceS w t e len _ cells hu hf, Result.andThen_ok]
    exact hK _ _ h
theorem wpList_buildC {P : Program} {ops : Array Oper} {rest : List Oper} {o : Oper} {a : Act} {w : World} {Q : Exit → Act → World → Prop} (hg : o.guard = none) (t : TypeId) (parts : Array (Nat × Operand)) (ho : o.op = .build t parts)
    (cells : Array Value) (hf : P.built t (parts.map fun (i, x) => (i, a.eval x)).toList = some cells)
    (h : wpList P ops Q rest (a.put o.dst (.agg cells)) w) : wpList P ops Q (o :: rest) a w :=
  wpList_plain hg fun _ hK => by
    unfold Oper.wp execOp
    simp only [ho, Sem.run_bind, run_build w t _ cells hf, Result.andThen_ok]
    exact hK _ _ h
/-- a new block of known cells, as a list -/
theorem SlO.lit {α : Type} {w : World} {n : Nat} {enc : α → List Value} (hn : ∀ x, (enc x).length = n) (xs : List α) (T : TypeId) (hm : xs.length ≤ maxLen) : SlO (w.alloc (.cells (xs.flatMap enc).toArray T)) w.heap.size n enc (.slice (some ⟨w.heap.size, 0, none⟩) xs.length xs.length) xs := by
  have hp : ∀ j, j < (xs.flatMap enc).length → (w.alloc (.cells (xs.flatMap enc).toArray T)).cell? ⟨w.heap.size, j, none⟩ = some ((xs.flatMap enc).getD j undef) := fun j hj => by
    rw [World.cell?_alloc_at _ _ _ _ rfl]; simp [List.getD_eq_getElem?_getD, List.getElem?_eq_getElem hj]
  have hP : PartC (w.alloc (.cells (xs.flatMap enc).toArray T)) w.heap.size (xs.flatMap enc) (xs.length * n) :=
    ⟨by rw [World.size_alloc]; omega, by rw [flat_len enc hn]; exact Nat.le_refl _, fun j => World.frozen?_alloc_at _ _ _ _ rfl, fun j hj => ⟨_, hp j hj⟩, fun j hj => hp j (by rw [flat_len enc hn]; exact hj)⟩
  exact hP.own hn (Nat.le_refl _) (Nat.le_refl _) hm
end Go.Proofs.YtabbhlehbhadiaaGreatDoor
