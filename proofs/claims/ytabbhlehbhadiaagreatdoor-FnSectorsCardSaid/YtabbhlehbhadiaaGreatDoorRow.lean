/- The circle as a row of 360 cells, by value and in memory; the impl's circle walked. -/
import Derived.Test.YtabbhlehbhadiaaGreatDoorArcs
import Derived.Test.YtabbhlehbhadiaaGreatDoorTab
import Derived.Test.YtabbhlehbhadiaaGreatDoorMark
import Derived.Laws.Rows
namespace Go.Proofs.YtabbhlehbhadiaaGreatDoor
open Go.RowKit Go.Sort
set_option maxRecDepth 100000

def circA (c : Circ) : Array Value := ((List.range 360).map fun (d : Nat) => Value.string (c d)).toArray
theorem circA_size (c : Circ) : (circA c).size = 360 := by simp [circA]
theorem circA_get (c : Circ) {d : Nat} (h : d < 360) : (circA c)[d]? = some (.string (c d)) := by simp [circA, h]
theorem circA_one (c : Circ) : (circA c).all (·.oneCell') = true := by
  rw [Array.all_eq_true_iff_forall_mem]
  intro x hx
  simp only [circA, List.mem_toArray, List.mem_map] at hx
  obtain ⟨d, _, rfl⟩ := hx
  rfl
theorem circA_set (c c' : Circ) {q : Nat} (s : ByteArray) (hc : ∀ d : Int, 0 ≤ d → d < 360 → c' d = if d = q then s else c d) : (circA c).setIfInBounds q (.string s) = circA c' := by
  apply Array.ext
  · simp [circA_size]
  · intro i h1 h2
    have hi : i < 360 := by rw [circA_size] at h2; exact h2
    have e1 := circA_get c hi
    have e2 := circA_get c' hi
    rw [Array.getElem?_eq_getElem (by rw [circA_size]; exact hi)] at e1 e2
    injection e1 with e1
    injection e2 with e2
    rw [Array.getElem_setIfInBounds (by rw [circA_size]; exact hi), e2, hc i (by omega) (by omega)]
    by_cases e : q = i
    · subst e; simp
    · rw [if_neg e, if_neg (by omega), e1]
theorem circA_congr {c c' : Circ} (h : ∀ d : Int, 0 ≤ d → d < 360 → c' d = c d) : circA c' = circA c := by
  unfold circA
  congr 1
  apply List.map_congr_left
  intro d hd
  rw [h d (by omega) (by simp at hd; omega)]
/-- block g is a circle -/
def RowC (w : World) (g : Nat) (c : Circ) : Prop := w.heap[g]? = some (.cells (circA c) 85 (0, 0))
theorem RowC.lt {w : World} {g : Nat} {c : Circ} (h : RowC w g c) : g < w.heap.size := (Array.getElem?_eq_some_iff.1 h).1
theorem RowC.cell {w : World} {g : Nat} {c : Circ} (h : RowC w g c) {d : Nat} (hd : d < 360) : w.cell? ⟨g, d, none⟩ = some (.string (c d)) := by rw [cell_of_row w g d _ _ _ h, circA_get c hd]
theorem RowC.frozen {w : World} {g : Nat} {c : Circ} (h : RowC w g c) (j : Nat) : w.frozen? ⟨g, j, none⟩ = false := frozen_of_row w g j _ _ h
theorem RowC.below {w w' : World} {g : Nat} {c : Circ} (h : RowC w g c) (hb : Below w.heap.size w w') : RowC w' g c := by
  unfold RowC; rw [hb.block g h.lt]; exact h
theorem RowC.set {w : World} {g : Nat} {c c' : Circ} (h : RowC w g c) {q : Nat} (s : ByteArray) (hc : ∀ d : Int, 0 ≤ d → d < 360 → c' d = if d = q then s else c d) : RowC (w.setCell ⟨g, q, none⟩ (.string s)) g c' := by
  unfold RowC; rw [heap_setCell_same w g q _ _ _ h, circA_set c c' s hc]
theorem RowC.far {w : World} {g : Nat} {c : Circ} (h : RowC w g c) {a : Addr} {v : Value} (hne : g ≠ a.block) : RowC (w.setCell a v) g c := by
  unfold RowC; rw [heap_setCell_other w a g v hne]; exact h
theorem RowC.grown {w w' : World} {g : Nat} {c : Circ} (h : RowC w g c) {r : Option Nat} (hg : w.grownBy w' r) (hr : r ≠ some g) : RowC w' g c := by
  unfold RowC; rw [hg.block g h.lt (fun e => hr e.symm)]; exact h
theorem RowC.congr {w : World} {g : Nat} {c c' : Circ} (h : RowC w g c) (hc : ∀ d : Int, 0 ≤ d → d < 360 → c' d = c d) : RowC w g c' := by unfold RowC; rw [circA_congr hc]; exact h
theorem RowC.drew {w : World} {g : Nat} {c : Circ} (h : RowC w g c) : RowC w.drew g c := h
theorem RowC.new (w : World) (c : Circ) : RowC (w.alloc (.cells (circA c) 85)) w.heap.size c := heap_alloc_new _ _
theorem RowC.circ {w : World} {g : Nat} {c : Circ} (h : RowC w g c) : CircC w g c := ⟨h.lt, h.frozen, fun d hd => h.cell hd⟩
/-- no color anywhere -/
def dark : Circ := fun _ => ⟨#[]⟩
theorem zc_circle : Tryz.zeroCells85 = circA dark := by kernel_rfl
theorem info_circle : (Tryz.prog.info? 85).map (·.size) = some 360 := by kernel_rfl
theorem zero_circle : (Tryz.prog.info? 85).bind (·.zero) = some (.agg (circA dark)) := by kernel_rfl
theorem built_circle : Tryz.prog.built 85 [] = some (circA dark) := by kernel_rfl
theorem und_circle : ∃ d, Tryz.prog.underlying 85 = some d ∧ (match d with | .struct _ | .array _ _ => true | _ => false) = true := ⟨_, Tryz.underlying85, rfl⟩
theorem setRow_row {w : World} {g : Nat} {c c' : Circ} (h : RowC w g c) : RowC (w.setRow g (circA c')) g c' := setRow_heap w g _ _ _ _ h
theorem below_setRow {B g : Nat} {w0 w : World} {cs : Array Value} (h : Below B w0 w) (hg : B ≤ g) : Below B w0 (w.setRow g cs) := by
  refine ⟨h.os, h.tape, h.output, by simpa using h.size, fun k hk => ?_⟩
  rw [← h.block k hk]
  unfold World.setRow
  simp only [Array.getElem?_modify]
  rw [if_neg (by omega)]
theorem row_setRow {w : World} {g g' : Nat} {c : Circ} {cs : Array Value} (h : RowC w g c) (hne : g ≠ g') : RowC (w.setRow g' cs) g c := by
  unfold RowC World.setRow
  simp only [Array.getElem?_modify]
  rw [if_neg (fun e => hne e.symm)]; exact h
theorem wpList_alloc_row {P : Program} {ops : Array Oper} {rest : List Oper} {o : Oper} {a : Act} {w : World} {Q : Exit → Act → World → Prop} (hg : o.guard = none) (T : TypeId) (ho : o.op = .alloc T) (cs : Array Value) (hz : (P.info? T).bind (·.zero) = some (.agg cs))
    (h : wpList P ops Q rest (a.put o.dst (.pointer (some ⟨w.heap.size, 0, none⟩))) (w.alloc (.cells cs T))) : wpList P ops Q (o :: rest) a w := by
  cases hi : P.info? T with
  | none => rw [hi] at hz; cases hz
  | some i =>
    rw [hi] at hz
    have hz' : i.zero = some (.agg cs) := hz
    have hZ : (zeroValue T).run P w = .ok (.agg cs) w := by simp [zeroValue, typeInfo, hi, hz']
    have hS : (sizeOf T).run P w = .ok i.size w := by simp [sizeOf, typeInfo, hi]
    refine wpList_plain hg fun _ hK => ?_
    unfold Oper.wp execOp
    simp only [ho, Instr.alloc, hZ, hS, Sem.run_bind, Sem.run_pure, Result.andThen_ok]
    exact hK _ _ h
end Go.Proofs.YtabbhlehbhadiaaGreatDoor
