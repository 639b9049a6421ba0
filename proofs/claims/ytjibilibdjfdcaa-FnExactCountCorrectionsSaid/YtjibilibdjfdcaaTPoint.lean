/- Point: its data, how it reads, its copy, size and equality; slices of it. Printed by wip/gen.py. -/
import Derived.Test.YtjibilibdjfdcaaNames
import Derived.Test.YtjibilibdjfdcaaSl
import Derived.StillTailTactics
namespace Go.Proofs.Ytjibilibdjfdcaa
open Go.RowKit
set_option maxRecDepth 100000

structure PointD where
  fX : Int
  fY : Int
def encPoint (d : PointD) : List Value := [.int .i64 d.fX, .int .i64 d.fY]
def okPoint (d : PointD) : Prop := I64 d.fX ∧ I64 d.fY
theorem lenPoint (d : PointD) : (encPoint d).length = 2 := rfl

theorem cells_Point : Try.prog.cellsOf 48 = 2 := by kernel_rfl
theorem rds_Point {w : World} {cs : List Value} (h : Rds Try.prog w 48 cs) : ∃ d : PointD, cs = encPoint d ∧ okPoint d := by
  obtain ⟨hl, hf⟩ := Rds.st Try.underlying48 h
  rw [cells_Point] at hl
  have e : ∃ c0 c1, cs = [c0, c1] := by
    match cs, hl with
    | [c0, c1], _ => exact ⟨c0, c1, rfl⟩
  obtain ⟨c0, c1, rfl⟩ := e
  simp only [List.mem_cons, List.not_mem_nil, or_false, forall_eq_or_imp, forall_eq, cells_int64] at hf
  obtain ⟨h0, h1⟩ := hf
  obtain ⟨x0, e0, w0⟩ := Rds.int Try.underlying2 h0
  obtain ⟨x1, e1, w1⟩ := Rds.int Try.underlying2 h1
  simp at e0 e1
  subst e0
  subst e1
  exact ⟨⟨x0, x1⟩, rfl, i64_of w0, i64_of w1⟩
theorem open_Point {H : Type} {enc : TypeId × Value → H} {W : World} {base : Nat} {v : Value} {d : DataW H} {p : List MemPlace} (hv : Value.okWide Try.prog W .any base 48 v) (h : DataW.Trod enc Try.prog W 0 (fun _ => true) true 48 v d p) :
    ∃ d : PointD, v = .agg #[.int .i64 d.fX, .int .i64 d.fY] ∧ okPoint d := by
  obtain ⟨⟨l⟩, rfl, hsz⟩ := WideShapes.okWide_struct Try.underlying48 hv
  obtain ⟨d, e, hd⟩ := rds_Point (rds_arg h)
  exact ⟨d, congrArg (fun l => Value.agg ⟨l⟩) e, hd⟩
theorem c_toPoint (x0 : Int) (x1 : Int) (w : World) :
    Calls Try.prog 43 #[.agg #[.int .i64 x0, .int .i64 x1]] w fun e w' => e = .returned (.agg #[.int .i64 x0, .int .i64 x1]) ∧ Below w.heap.size w w' := by
  go_enter Try.func43, Try.ntmps43
  go_wp2
  exact bodyPost_ret (v := .agg #[.int .i64 x0, .int .i64 x1]) (by simp [results, Try.results43, go_sem]) rfl ⟨rfl, by (repeat' (first | (with_reducible exact Below.refl _ _) | (with_reducible refine Below.alloc ?_ ?_ _) | (with_reducible refine Below.drew ?_) | (with_reducible refine below_drewN ?_ _) | (with_reducible refine Below.setCell ?_ ?_ _) | (with_reducible refine below_via ‹_› ?_ ?_) | (with_reducible refine below_grow ?_ ?_ _ _) | omega | (simp; done) | (simp; omega)))⟩
theorem c_eqPoint (x0 : Int) (x1 : Int) (w : World) :
    Calls Try.prog 49 #[.agg #[.int .i64 x0, .int .i64 x1], .agg #[.int .i64 x0, .int .i64 x1]] w fun e w' => e = .returned (.bool true) ∧ Below w.heap.size w w' := by
  go_enter Try.func49, Try.ntmps49
  go_wp2
  go_ret
  exact ⟨rfl, by (repeat' (first | (with_reducible exact Below.refl _ _) | (with_reducible refine Below.alloc ?_ ?_ _) | (with_reducible refine Below.drew ?_) | (with_reducible refine below_drewN ?_ _) | (with_reducible refine Below.setCell ?_ ?_ _) | (with_reducible refine below_via ‹_› ?_ ?_) | (with_reducible refine below_grow ?_ ?_ _ _) | omega | (simp; done) | (simp; omega)))⟩
end Go.Proofs.Ytjibilibdjfdcaa
