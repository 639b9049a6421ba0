/- Mark: its data, how it reads, its copy, size and equality; slices of it. Printed by wip/gen.py. -/
import Derived.Test.YtjibilibdjfdcaaNames
import Derived.Test.YtjibilibdjfdcaaSl
import Derived.StillTailTactics
namespace Go.Proofs.Ytjibilibdjfdcaa
open Go.RowKit
set_option maxRecDepth 100000

structure MarkD where
  fKind : Int
  fColors : ByteArray
  fShape : ByteArray
  fTopmark : ByteArray
def encMark (d : MarkD) : List Value := [.int .i64 d.fKind, .string d.fColors, .string d.fShape, .string d.fTopmark]
def okMark (d : MarkD) : Prop := I64 d.fKind ∧ d.fColors.size ≤ maxLen ∧ d.fShape.size ≤ maxLen ∧ d.fTopmark.size ≤ maxLen
theorem lenMark (d : MarkD) : (encMark d).length = 4 := rfl

theorem cells_Mark : Try.prog.cellsOf 50 = 4 := by kernel_rfl
theorem rds_Mark {w : World} {cs : List Value} (h : Rds Try.prog w 50 cs) : ∃ d : MarkD, cs = encMark d ∧ okMark d := by
  obtain ⟨hl, hf⟩ := Rds.st Try.underlying50 h
  rw [cells_Mark] at hl
  have e : ∃ c0 c1 c2 c3, cs = [c0, c1, c2, c3] := by
    match cs, hl with
    | [c0, c1, c2, c3], _ => exact ⟨c0, c1, c2, c3, rfl⟩
  obtain ⟨c0, c1, c2, c3, rfl⟩ := e
  simp only [List.mem_cons, List.not_mem_nil, or_false, forall_eq_or_imp, forall_eq, cells_int64, cells_string] at hf
  obtain ⟨h0, h1, h2, h3⟩ := hf
  obtain ⟨x0, e0, w0⟩ := Rds.int Try.underlying2 h0
  obtain ⟨x1, e1, w1⟩ := Rds.str Try.underlying9 h1
  obtain ⟨x2, e2, w2⟩ := Rds.str Try.underlying9 h2
  obtain ⟨x3, e3, w3⟩ := Rds.str Try.underlying9 h3
  simp at e0 e1 e2 e3
  subst e0
  subst e1
  subst e2
  subst e3
  exact ⟨⟨x0, x1, x2, x3⟩, rfl, i64_of w0, w1, w2, w3⟩
theorem open_Mark {H : Type} {enc : TypeId × Value → H} {W : World} {base : Nat} {v : Value} {d : DataW H} {p : List MemPlace} (hv : Value.okWide Try.prog W .any base 50 v) (h : DataW.Trod enc Try.prog W 0 (fun _ => true) true 50 v d p) :
    ∃ d : MarkD, v = .agg #[.int .i64 d.fKind, .string d.fColors, .string d.fShape, .string d.fTopmark] ∧ okMark d := by
  obtain ⟨⟨l⟩, rfl, hsz⟩ := WideShapes.okWide_struct Try.underlying50 hv
  obtain ⟨d, e, hd⟩ := rds_Mark (rds_arg h)
  exact ⟨d, congrArg (fun l => Value.agg ⟨l⟩) e, hd⟩
theorem c_toMark (x0 : Int) (x1 : ByteArray) (x2 : ByteArray) (x3 : ByteArray) (w : World) :
    Calls Try.prog 44 #[.agg #[.int .i64 x0, .string x1, .string x2, .string x3]] w fun e w' => e = .returned (.agg #[.int .i64 x0, .string x1, .string x2, .string x3]) ∧ Below w.heap.size w w' := by
  go_enter Try.func44, Try.ntmps44
  go_wp2
  exact bodyPost_ret (v := .agg #[.int .i64 x0, .string x1, .string x2, .string x3]) (by simp [results, Try.results44, go_sem]) rfl ⟨rfl, by (repeat' (first | (with_reducible exact Below.refl _ _) | (with_reducible refine Below.alloc ?_ ?_ _) | (with_reducible refine Below.drew ?_) | (with_reducible refine below_drewN ?_ _) | (with_reducible refine Below.setCell ?_ ?_ _) | (with_reducible refine below_via ‹_› ?_ ?_) | (with_reducible refine below_grow ?_ ?_ _ _) | omega | (simp; done) | (simp; omega)))⟩
def sizeMark (d : MarkD) : Int := (d.fColors.size : Int) + (d.fShape.size : Int) + (d.fTopmark.size : Int)
theorem sizeMark_nn (d : MarkD) : 0 ≤ sizeMark d := by unfold sizeMark; omega
theorem c_szMark (x0 : Int) (x1 : ByteArray) (x2 : ByteArray) (x3 : ByteArray) (n : Int) (w : World) (hx1 : x1.size ≤ maxLen) (hx2 : x2.size ≤ maxLen) (hx3 : x3.size ≤ maxLen) (h0 : -1 ≤ n) (h1 : n ≤ 1048576) :
    Calls Try.prog 38 #[.agg #[.int .i64 x0, .string x1, .string x2, .string x3], .int .i64 n] w fun e w' => e = .returned (.int .i64 (szV n ((x1.size : Int) + (x2.size : Int) + (x3.size : Int)))) ∧ Below w.heap.size w w' := by
  unfold maxLen at hx1 hx2 hx3
  go_enter Try.func38, Try.ntmps38
  go_wp2
  all_goals (go_ret; go_light; refine ⟨ret_int (by unfold szV; split <;> omega), by (repeat' (first | (with_reducible exact Below.refl _ _) | (with_reducible refine Below.alloc ?_ ?_ _) | (with_reducible refine Below.drew ?_) | (with_reducible refine below_drewN ?_ _) | (with_reducible refine Below.setCell ?_ ?_ _) | (with_reducible refine below_via ‹_› ?_ ?_) | (with_reducible refine below_grow ?_ ?_ _ _) | omega | (simp; done) | (simp; omega)))⟩)
theorem c_eqMark (x0 : Int) (x1 : ByteArray) (x2 : ByteArray) (x3 : ByteArray) (w : World) :
    Calls Try.prog 50 #[.agg #[.int .i64 x0, .string x1, .string x2, .string x3], .agg #[.int .i64 x0, .string x1, .string x2, .string x3]] w fun e w' => e = .returned (.bool true) ∧ Below w.heap.size w w' := by
  go_enter Try.func50, Try.ntmps50
  go_wp2
  go_ret
  exact ⟨rfl, by (repeat' (first | (with_reducible exact Below.refl _ _) | (with_reducible refine Below.alloc ?_ ?_ _) | (with_reducible refine Below.drew ?_) | (with_reducible refine below_drewN ?_ _) | (with_reducible refine Below.setCell ?_ ?_ _) | (with_reducible refine below_via ‹_› ?_ ?_) | (with_reducible refine below_grow ?_ ?_ _ _) | omega | (simp; done) | (simp; omega)))⟩
end Go.Proofs.Ytjibilibdjfdcaa
