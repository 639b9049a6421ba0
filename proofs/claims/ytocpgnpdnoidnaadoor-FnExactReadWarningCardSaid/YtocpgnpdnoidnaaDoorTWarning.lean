/- Warning: its data, how it reads, its copy, size and equality; slices of it. Printed by wip/gen.py. -/
import Derived.Test.YtocpgnpdnoidnaaDoorNames
import Derived.Test.YtocpgnpdnoidnaaDoorSl
import Derived.StillTailTactics
import Derived.Test.YtocpgnpdnoidnaaDoorTPoint
namespace Go.Proofs.YtocpgnpdnoidnaaDoor
open Go.RowKit
set_option maxRecDepth 100000

structure WarningD where
  fNumber : Int
  fPriority : Int
  fFrom : Int
  fUntil : Int
  fAtX : Int
  fAtY : Int
  fRadius : Int
  fWords : ByteArray
def encWarning (d : WarningD) : List Value := [.int .i64 d.fNumber, .int .i64 d.fPriority, .int .i64 d.fFrom, .int .i64 d.fUntil, .int .i64 d.fAtX, .int .i64 d.fAtY, .int .i64 d.fRadius, .string d.fWords]
def okWarning (d : WarningD) : Prop := I64 d.fNumber ∧ I64 d.fPriority ∧ I64 d.fFrom ∧ I64 d.fUntil ∧ I64 d.fAtX ∧ I64 d.fAtY ∧ I64 d.fRadius ∧ d.fWords.size ≤ maxLen
theorem lenWarning (d : WarningD) : (encWarning d).length = 8 := rfl

theorem cells_Warning : Tryd.prog.cellsOf 25 = 8 := by kernel_rfl
theorem rds_Warning {w : World} {cs : List Value} (h : Rds Tryd.prog w 25 cs) : ∃ d : WarningD, cs = encWarning d ∧ okWarning d := by
  obtain ⟨hl, hf⟩ := Rds.st Tryd.underlying25 h
  rw [cells_Warning] at hl
  have e : ∃ c0 c1 c2 c3 c4 c5 c6 c7, cs = [c0, c1, c2, c3, c4, c5, c6, c7] := by
    match cs, hl with
    | [c0, c1, c2, c3, c4, c5, c6, c7], _ => exact ⟨c0, c1, c2, c3, c4, c5, c6, c7, rfl⟩
  obtain ⟨c0, c1, c2, c3, c4, c5, c6, c7, rfl⟩ := e
  simp only [List.mem_cons, List.not_mem_nil, or_false, forall_eq_or_imp, forall_eq, cells_Point, cells_int64, cells_string] at hf
  obtain ⟨h0, h1, h2, h3, h4, h5, h6⟩ := hf
  obtain ⟨x0, e0, w0⟩ := Rds.int Tryd.underlying2 h0
  obtain ⟨x1, e1, w1⟩ := Rds.int Tryd.underlying2 h1
  obtain ⟨x2, e2, w2⟩ := Rds.int Tryd.underlying2 h2
  obtain ⟨x3, e3, w3⟩ := Rds.int Tryd.underlying2 h3
  obtain ⟨y4, e4, w4⟩ := rds_Point h4
  obtain ⟨x6, e6, w6⟩ := Rds.int Tryd.underlying2 h5
  obtain ⟨x7, e7, w7⟩ := Rds.str Tryd.underlying9 h6
  simp [encPoint] at e0 e1 e2 e3 e4 e6 e7
  subst e0
  subst e1
  subst e2
  subst e3
  obtain ⟨rfl, rfl⟩ := e4
  subst e6
  subst e7
  exact ⟨⟨x0, x1, x2, x3, y4.fX, y4.fY, x6, x7⟩, rfl, i64_of w0, i64_of w1, i64_of w2, i64_of w3, w4.1, w4.2, i64_of w6, w7⟩
theorem open_Warning {H : Type} {enc : TypeId × Value → H} {W : World} {base : Nat} {v : Value} {d : DataW H} {p : List MemPlace} (hv : Value.okWide Tryd.prog W .any base 25 v) (h : DataW.Trod enc Tryd.prog W 0 (fun _ => true) true 25 v d p) :
    ∃ d : WarningD, v = .agg #[.int .i64 d.fNumber, .int .i64 d.fPriority, .int .i64 d.fFrom, .int .i64 d.fUntil, .int .i64 d.fAtX, .int .i64 d.fAtY, .int .i64 d.fRadius, .string d.fWords] ∧ okWarning d := by
  obtain ⟨⟨l⟩, rfl, hsz⟩ := WideShapes.okWide_struct Tryd.underlying25 hv
  obtain ⟨d, e, hd⟩ := rds_Warning (rds_arg h)
  exact ⟨d, congrArg (fun l => Value.agg ⟨l⟩) e, hd⟩
theorem c_toWarning (x0 : Int) (x1 : Int) (x2 : Int) (x3 : Int) (x4 : Int) (x5 : Int) (x6 : Int) (x7 : ByteArray) (w : World) :
    Calls Tryd.prog 11 #[.agg #[.int .i64 x0, .int .i64 x1, .int .i64 x2, .int .i64 x3, .int .i64 x4, .int .i64 x5, .int .i64 x6, .string x7]] w fun e w' => e = .returned (.agg #[.int .i64 x0, .int .i64 x1, .int .i64 x2, .int .i64 x3, .int .i64 x4, .int .i64 x5, .int .i64 x6, .string x7]) ∧ Below w.heap.size w w' := by
  go_enter Tryd.func11, Tryd.ntmps11
  go_wp2_with (first | (go_at_call 38; refine (c_toPoint _ _ _).mono ?_; rintro e w1 ⟨rfl, hb⟩; obtain ⟨hc, hf⟩ := bcell hb; have hz := hb.size; (try simp at hz); (try have hz0 : ∀ b, b < w.heap.size → b < w1.heap.size := fun b h => by omega); (try have hz1 : w.heap.size < w1.heap.size := by omega); (try have hz2 : w.heap.size + 1 < w1.heap.size := by omega); (try have hz3 : w.heap.size + 2 < w1.heap.size := by omega)))
  exact bodyPost_ret (v := .agg #[.int .i64 x0, .int .i64 x1, .int .i64 x2, .int .i64 x3, .int .i64 x4, .int .i64 x5, .int .i64 x6, .string x7]) (by simp [results, Tryd.results11, go_sem, *]) rfl ⟨rfl, by (repeat' (first | (with_reducible exact Below.refl _ _) | (with_reducible refine Below.alloc ?_ ?_ _) | (with_reducible refine Below.drew ?_) | (with_reducible refine below_drewN ?_ _) | (with_reducible refine Below.setCell ?_ ?_ _) | (with_reducible refine below_via ‹_› ?_ ?_) | (with_reducible refine below_grow ?_ ?_ _ _) | omega | (simp; done) | (simp; omega)))⟩
def sizeWarning (d : WarningD) : Int := (d.fWords.size : Int)
theorem sizeWarning_nn (d : WarningD) : 0 ≤ sizeWarning d := by unfold sizeWarning; omega
theorem c_szWarning (x0 : Int) (x1 : Int) (x2 : Int) (x3 : Int) (x4 : Int) (x5 : Int) (x6 : Int) (x7 : ByteArray) (n : Int) (w : World) (hx7 : x7.size ≤ maxLen) (h0 : -1 ≤ n) (h1 : n ≤ 1048576) :
    Calls Tryd.prog 9 #[.agg #[.int .i64 x0, .int .i64 x1, .int .i64 x2, .int .i64 x3, .int .i64 x4, .int .i64 x5, .int .i64 x6, .string x7], .int .i64 n] w fun e w' => e = .returned (.int .i64 (szV n ((x7.size : Int)))) ∧ Below w.heap.size w w' := by
  unfold maxLen at hx7
  go_enter Tryd.func9, Tryd.ntmps9
  go_wp2
  all_goals (go_ret; go_light; refine ⟨ret_int (by unfold szV; split <;> omega), by (repeat' (first | (with_reducible exact Below.refl _ _) | (with_reducible refine Below.alloc ?_ ?_ _) | (with_reducible refine Below.drew ?_) | (with_reducible refine below_drewN ?_ _) | (with_reducible refine Below.setCell ?_ ?_ _) | (with_reducible refine below_via ‹_› ?_ ?_) | (with_reducible refine below_grow ?_ ?_ _ _) | omega | (simp; done) | (simp; omega)))⟩)
theorem c_eqWarning (x0 : Int) (x1 : Int) (x2 : Int) (x3 : Int) (x4 : Int) (x5 : Int) (x6 : Int) (x7 : ByteArray) (w : World) :
    Calls Tryd.prog 15 #[.agg #[.int .i64 x0, .int .i64 x1, .int .i64 x2, .int .i64 x3, .int .i64 x4, .int .i64 x5, .int .i64 x6, .string x7], .agg #[.int .i64 x0, .int .i64 x1, .int .i64 x2, .int .i64 x3, .int .i64 x4, .int .i64 x5, .int .i64 x6, .string x7]] w fun e w' => e = .returned (.bool true) ∧ Below w.heap.size w w' := by
  go_enter Tryd.func15, Tryd.ntmps15
  go_wp2_with (first | (go_at_call 48; refine (c_eqPoint _ _ _).mono ?_; rintro e w1 ⟨rfl, hb⟩; obtain ⟨hc, hf⟩ := bcell hb; have hz := hb.size; (try simp at hz); (try have hz0 : ∀ b, b < w.heap.size → b < w1.heap.size := fun b h => by omega); (try have hz1 : w.heap.size < w1.heap.size := by omega); (try have hz2 : w.heap.size + 1 < w1.heap.size := by omega); (try have hz3 : w.heap.size + 2 < w1.heap.size := by omega)))
  go_ret
  exact ⟨rfl, by (repeat' (first | (with_reducible exact Below.refl _ _) | (with_reducible refine Below.alloc ?_ ?_ _) | (with_reducible refine Below.drew ?_) | (with_reducible refine below_drewN ?_ _) | (with_reducible refine Below.setCell ?_ ?_ _) | (with_reducible refine below_via ‹_› ?_ ?_) | (with_reducible refine below_grow ?_ ?_ _ _) | omega | (simp; done) | (simp; omega)))⟩
end Go.Proofs.YtocpgnpdnoidnaaDoor
