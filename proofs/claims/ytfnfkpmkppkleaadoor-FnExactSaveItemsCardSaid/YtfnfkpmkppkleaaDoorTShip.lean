/- Ship: its data, how it reads, its copy, size and equality; slices of it. Printed by wip/gen.py. -/
import Derived.Test.YtfnfkpmkppkleaaDoorNames
import Derived.Test.YtfnfkpmkppkleaaDoorSl
import Derived.StillTailTactics
namespace Go.Proofs.YtfnfkpmkppkleaaDoor
open Go.RowKit
set_option maxRecDepth 100000

structure ShipD where
  fName : ByteArray
  fSpeed : Int
  fLoad : Int
  fDraught : Int
def encShip (d : ShipD) : List Value := [.string d.fName, .int .i64 d.fSpeed, .int .i64 d.fLoad, .int .i64 d.fDraught]
def okShip (d : ShipD) : Prop := d.fName.size ≤ maxLen ∧ I64 d.fSpeed ∧ I64 d.fLoad ∧ I64 d.fDraught
theorem lenShip (d : ShipD) : (encShip d).length = 4 := rfl

theorem cells_Ship : Tryd.prog.cellsOf 23 = 4 := by kernel_rfl
theorem rds_Ship {w : World} {cs : List Value} (h : Rds Tryd.prog w 23 cs) : ∃ d : ShipD, cs = encShip d ∧ okShip d := by
  obtain ⟨hl, hf⟩ := Rds.st Tryd.underlying23 h
  rw [cells_Ship] at hl
  have e : ∃ c0 c1 c2 c3, cs = [c0, c1, c2, c3] := by
    match cs, hl with
    | [c0, c1, c2, c3], _ => exact ⟨c0, c1, c2, c3, rfl⟩
  obtain ⟨c0, c1, c2, c3, rfl⟩ := e
  simp only [List.mem_cons, List.not_mem_nil, or_false, forall_eq_or_imp, forall_eq, cells_int64, cells_string] at hf
  obtain ⟨h0, h1, h2, h3⟩ := hf
  obtain ⟨x0, e0, w0⟩ := Rds.str Tryd.underlying9 h0
  obtain ⟨x1, e1, w1⟩ := Rds.int Tryd.underlying2 h1
  obtain ⟨x2, e2, w2⟩ := Rds.int Tryd.underlying2 h2
  obtain ⟨x3, e3, w3⟩ := Rds.int Tryd.underlying2 h3
  simp at e0 e1 e2 e3
  subst e0
  subst e1
  subst e2
  subst e3
  exact ⟨⟨x0, x1, x2, x3⟩, rfl, w0, i64_of w1, i64_of w2, i64_of w3⟩
theorem open_Ship {H : Type} {enc : TypeId × Value → H} {W : World} {base : Nat} {v : Value} {d : DataW H} {p : List MemPlace} (hv : Value.okWide Tryd.prog W .any base 23 v) (h : DataW.Trod enc Tryd.prog W 0 (fun _ => true) true 23 v d p) :
    ∃ d : ShipD, v = .agg #[.string d.fName, .int .i64 d.fSpeed, .int .i64 d.fLoad, .int .i64 d.fDraught] ∧ okShip d := by
  obtain ⟨⟨l⟩, rfl, hsz⟩ := WideShapes.okWide_struct Tryd.underlying23 hv
  obtain ⟨d, e, hd⟩ := rds_Ship (rds_arg h)
  exact ⟨d, congrArg (fun l => Value.agg ⟨l⟩) e, hd⟩
theorem c_toShip (x0 : ByteArray) (x1 : Int) (x2 : Int) (x3 : Int) (w : World) :
    Calls Tryd.prog 17 #[.agg #[.string x0, .int .i64 x1, .int .i64 x2, .int .i64 x3]] w fun e w' => e = .returned (.agg #[.string x0, .int .i64 x1, .int .i64 x2, .int .i64 x3]) ∧ Below w.heap.size w w' := by
  go_enter Tryd.func17, Tryd.ntmps17
  go_wp2
  exact bodyPost_ret (v := .agg #[.string x0, .int .i64 x1, .int .i64 x2, .int .i64 x3]) (by simp [results, Tryd.results17, go_sem]) rfl ⟨rfl, by (repeat' (first | (with_reducible exact Below.refl _ _) | (with_reducible refine Below.alloc ?_ ?_ _) | (with_reducible refine Below.drew ?_) | (with_reducible refine below_drewN ?_ _) | (with_reducible refine Below.setCell ?_ ?_ _) | (with_reducible refine below_via ‹_› ?_ ?_) | (with_reducible refine below_grow ?_ ?_ _ _) | omega | (simp; done) | (simp; omega)))⟩
def sizeShip (d : ShipD) : Int := (d.fName.size : Int)
theorem sizeShip_nn (d : ShipD) : 0 ≤ sizeShip d := by unfold sizeShip; omega
theorem c_szShip (x0 : ByteArray) (x1 : Int) (x2 : Int) (x3 : Int) (n : Int) (w : World) (hx0 : x0.size ≤ maxLen) (h0 : -1 ≤ n) (h1 : n ≤ 1048576) :
    Calls Tryd.prog 15 #[.agg #[.string x0, .int .i64 x1, .int .i64 x2, .int .i64 x3], .int .i64 n] w fun e w' => e = .returned (.int .i64 (szV n ((x0.size : Int)))) ∧ Below w.heap.size w w' := by
  unfold maxLen at hx0
  go_enter Tryd.func15, Tryd.ntmps15
  go_wp2
  all_goals (go_ret; go_light; refine ⟨ret_int (by unfold szV; split <;> omega), by (repeat' (first | (with_reducible exact Below.refl _ _) | (with_reducible refine Below.alloc ?_ ?_ _) | (with_reducible refine Below.drew ?_) | (with_reducible refine below_drewN ?_ _) | (with_reducible refine Below.setCell ?_ ?_ _) | (with_reducible refine below_via ‹_› ?_ ?_) | (with_reducible refine below_grow ?_ ?_ _ _) | omega | (simp; done) | (simp; omega)))⟩)
theorem c_eqShip (x0 : ByteArray) (x1 : Int) (x2 : Int) (x3 : Int) (w : World) :
    Calls Tryd.prog 44 #[.agg #[.string x0, .int .i64 x1, .int .i64 x2, .int .i64 x3], .agg #[.string x0, .int .i64 x1, .int .i64 x2, .int .i64 x3]] w fun e w' => e = .returned (.bool true) ∧ Below w.heap.size w w' := by
  go_enter Tryd.func44, Tryd.ntmps44
  go_wp2
  go_ret
  exact ⟨rfl, by (repeat' (first | (with_reducible exact Below.refl _ _) | (with_reducible refine Below.alloc ?_ ?_ _) | (with_reducible refine Below.drew ?_) | (with_reducible refine below_drewN ?_ _) | (with_reducible refine Below.setCell ?_ ?_ _) | (with_reducible refine below_via ‹_› ?_ ?_) | (with_reducible refine below_grow ?_ ?_ _ _) | omega | (simp; done) | (simp; omega)))⟩
end Go.Proofs.YtfnfkpmkppkleaaDoor
