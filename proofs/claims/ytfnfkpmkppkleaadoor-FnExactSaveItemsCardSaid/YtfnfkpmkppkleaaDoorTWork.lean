/- Work: its data, how it reads, its copy, size and equality; slices of it. Printed by wip/gen.py. -/
import Derived.Test.YtfnfkpmkppkleaaDoorNames
import Derived.Test.YtfnfkpmkppkleaaDoorSl
import Derived.StillTailTactics
import Derived.Test.YtfnfkpmkppkleaaDoorTPoint
namespace Go.Proofs.YtfnfkpmkppkleaaDoor
open Go.RowKit
set_option maxRecDepth 100000

structure WorkD where
  fName : ByteArray
  fAtX : Int
  fAtY : Int
  fLoad : Int
  fMinutes : Int
  fFrom : Int
  fUntil : Int
def encWork (d : WorkD) : List Value := [.string d.fName, .int .i64 d.fAtX, .int .i64 d.fAtY, .int .i64 d.fLoad, .int .i64 d.fMinutes, .int .i64 d.fFrom, .int .i64 d.fUntil]
def okWork (d : WorkD) : Prop := d.fName.size ≤ maxLen ∧ I64 d.fAtX ∧ I64 d.fAtY ∧ I64 d.fLoad ∧ I64 d.fMinutes ∧ I64 d.fFrom ∧ I64 d.fUntil
theorem lenWork (d : WorkD) : (encWork d).length = 7 := rfl

theorem cells_Work : Tryd.prog.cellsOf 32 = 7 := by kernel_rfl
theorem rds_Work {w : World} {cs : List Value} (h : Rds Tryd.prog w 32 cs) : ∃ d : WorkD, cs = encWork d ∧ okWork d := by
  obtain ⟨hl, hf⟩ := Rds.st Tryd.underlying32 h
  rw [cells_Work] at hl
  have e : ∃ c0 c1 c2 c3 c4 c5 c6, cs = [c0, c1, c2, c3, c4, c5, c6] := by
    match cs, hl with
    | [c0, c1, c2, c3, c4, c5, c6], _ => exact ⟨c0, c1, c2, c3, c4, c5, c6, rfl⟩
  obtain ⟨c0, c1, c2, c3, c4, c5, c6, rfl⟩ := e
  simp only [List.mem_cons, List.not_mem_nil, or_false, forall_eq_or_imp, forall_eq, cells_Point, cells_int64, cells_string] at hf
  obtain ⟨h0, h1, h2, h3, h4, h5⟩ := hf
  obtain ⟨x0, e0, w0⟩ := Rds.str Tryd.underlying9 h0
  obtain ⟨y1, e1, w1⟩ := rds_Point h1
  obtain ⟨x3, e3, w3⟩ := Rds.int Tryd.underlying2 h2
  obtain ⟨x4, e4, w4⟩ := Rds.int Tryd.underlying2 h3
  obtain ⟨x5, e5, w5⟩ := Rds.int Tryd.underlying2 h4
  obtain ⟨x6, e6, w6⟩ := Rds.int Tryd.underlying2 h5
  simp [encPoint] at e0 e1 e3 e4 e5 e6
  subst e0
  obtain ⟨rfl, rfl⟩ := e1
  subst e3
  subst e4
  subst e5
  subst e6
  exact ⟨⟨x0, y1.fX, y1.fY, x3, x4, x5, x6⟩, rfl, w0, w1.1, w1.2, i64_of w3, i64_of w4, i64_of w5, i64_of w6⟩
theorem open_Work {H : Type} {enc : TypeId × Value → H} {W : World} {base : Nat} {v : Value} {d : DataW H} {p : List MemPlace} (hv : Value.okWide Tryd.prog W .any base 32 v) (h : DataW.Trod enc Tryd.prog W 0 (fun _ => true) true 32 v d p) :
    ∃ d : WorkD, v = .agg #[.string d.fName, .int .i64 d.fAtX, .int .i64 d.fAtY, .int .i64 d.fLoad, .int .i64 d.fMinutes, .int .i64 d.fFrom, .int .i64 d.fUntil] ∧ okWork d := by
  obtain ⟨⟨l⟩, rfl, hsz⟩ := WideShapes.okWide_struct Tryd.underlying32 hv
  obtain ⟨d, e, hd⟩ := rds_Work (rds_arg h)
  exact ⟨d, congrArg (fun l => Value.agg ⟨l⟩) e, hd⟩
theorem c_toWork (x0 : ByteArray) (x1 : Int) (x2 : Int) (x3 : Int) (x4 : Int) (x5 : Int) (x6 : Int) (w : World) :
    Calls Tryd.prog 21 #[.agg #[.string x0, .int .i64 x1, .int .i64 x2, .int .i64 x3, .int .i64 x4, .int .i64 x5, .int .i64 x6]] w fun e w' => e = .returned (.agg #[.string x0, .int .i64 x1, .int .i64 x2, .int .i64 x3, .int .i64 x4, .int .i64 x5, .int .i64 x6]) ∧ Below w.heap.size w w' := by
  go_enter Tryd.func21, Tryd.ntmps21
  go_wp2_with (first | (go_at_call 69; refine (c_toPoint _ _ _).mono ?_; rintro e w1 ⟨rfl, hb⟩; obtain ⟨hc, hf⟩ := bcell hb; have hz := hb.size; (try simp at hz); (try have hz0 : ∀ b, b < w.heap.size → b < w1.heap.size := fun b h => by omega); (try have hz1 : w.heap.size < w1.heap.size := by omega); (try have hz2 : w.heap.size + 1 < w1.heap.size := by omega); (try have hz3 : w.heap.size + 2 < w1.heap.size := by omega)))
  exact bodyPost_ret (v := .agg #[.string x0, .int .i64 x1, .int .i64 x2, .int .i64 x3, .int .i64 x4, .int .i64 x5, .int .i64 x6]) (by simp [results, Tryd.results21, go_sem, *]) rfl ⟨rfl, by (repeat' (first | (with_reducible exact Below.refl _ _) | (with_reducible refine Below.alloc ?_ ?_ _) | (with_reducible refine Below.drew ?_) | (with_reducible refine below_drewN ?_ _) | (with_reducible refine Below.setCell ?_ ?_ _) | (with_reducible refine below_via ‹_› ?_ ?_) | (with_reducible refine below_grow ?_ ?_ _ _) | omega | (simp; done) | (simp; omega)))⟩
def sizeWork (d : WorkD) : Int := (d.fName.size : Int)
theorem sizeWork_nn (d : WorkD) : 0 ≤ sizeWork d := by unfold sizeWork; omega
theorem c_szWork (x0 : ByteArray) (x1 : Int) (x2 : Int) (x3 : Int) (x4 : Int) (x5 : Int) (x6 : Int) (n : Int) (w : World) (hx0 : x0.size ≤ maxLen) (h0 : -1 ≤ n) (h1 : n ≤ 1048576) :
    Calls Tryd.prog 19 #[.agg #[.string x0, .int .i64 x1, .int .i64 x2, .int .i64 x3, .int .i64 x4, .int .i64 x5, .int .i64 x6], .int .i64 n] w fun e w' => e = .returned (.int .i64 (szV n ((x0.size : Int)))) ∧ Below w.heap.size w w' := by
  unfold maxLen at hx0
  go_enter Tryd.func19, Tryd.ntmps19
  go_wp2
  all_goals (go_ret; go_light; refine ⟨ret_int (by unfold szV; split <;> omega), by (repeat' (first | (with_reducible exact Below.refl _ _) | (with_reducible refine Below.alloc ?_ ?_ _) | (with_reducible refine Below.drew ?_) | (with_reducible refine below_drewN ?_ _) | (with_reducible refine Below.setCell ?_ ?_ _) | (with_reducible refine below_via ‹_› ?_ ?_) | (with_reducible refine below_grow ?_ ?_ _ _) | omega | (simp; done) | (simp; omega)))⟩)
theorem c_eqWork (x0 : ByteArray) (x1 : Int) (x2 : Int) (x3 : Int) (x4 : Int) (x5 : Int) (x6 : Int) (w : World) :
    Calls Tryd.prog 47 #[.agg #[.string x0, .int .i64 x1, .int .i64 x2, .int .i64 x3, .int .i64 x4, .int .i64 x5, .int .i64 x6], .agg #[.string x0, .int .i64 x1, .int .i64 x2, .int .i64 x3, .int .i64 x4, .int .i64 x5, .int .i64 x6]] w fun e w' => e = .returned (.bool true) ∧ Below w.heap.size w w' := by
  go_enter Tryd.func47, Tryd.ntmps47
  go_wp2_with (first | (go_at_call 102; refine (c_eqPoint _ _ _).mono ?_; rintro e w1 ⟨rfl, hb⟩; obtain ⟨hc, hf⟩ := bcell hb; have hz := hb.size; (try simp at hz); (try have hz0 : ∀ b, b < w.heap.size → b < w1.heap.size := fun b h => by omega); (try have hz1 : w.heap.size < w1.heap.size := by omega); (try have hz2 : w.heap.size + 1 < w1.heap.size := by omega); (try have hz3 : w.heap.size + 2 < w1.heap.size := by omega)))
  go_ret
  exact ⟨rfl, by (repeat' (first | (with_reducible exact Below.refl _ _) | (with_reducible refine Below.alloc ?_ ?_ _) | (with_reducible refine Below.drew ?_) | (with_reducible refine below_drewN ?_ _) | (with_reducible refine Below.setCell ?_ ?_ _) | (with_reducible refine below_via ‹_› ?_ ?_) | (with_reducible refine below_grow ?_ ?_ _ _) | omega | (simp; done) | (simp; omega)))⟩
end Go.Proofs.YtfnfkpmkppkleaaDoor
