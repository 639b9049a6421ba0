/- Points and works: the checks of both sides. -/
import Derived.Test.YtocpgnpdnoidnaaDoorTWork
namespace Go.Proofs.YtocpgnpdnoidnaaDoor
open Go.RowKit
set_option maxRecDepth 100000

def pointB (x y : Int) : Bool := inB x 0 200000 && inB y 0 200000
theorem c_ValidPoint (x y : Int) (w : World) :
    Calls Tryd.prog 75 #[.agg #[.int .i64 x, .int .i64 y]] w fun e w' => e = .returned (.bool (pointB x y)) ∧ Below w.heap.size w w' := by
  go_enter Tryd.func75, Tryd.ntmps75
  go_wp2_with (first | (go_at_call 73; refine (c_within _ _ _ _).mono ?_; rintro e w' ⟨rfl, rfl⟩))
  all_goals (go_ret; go_light; refine ⟨by simp_all [pointB], by (repeat' (first | (with_reducible exact Below.refl _ _) | (with_reducible refine Below.alloc ?_ ?_ _) | (with_reducible refine Below.drew ?_) | (with_reducible refine below_drewN ?_ _) | (with_reducible refine Below.setCell ?_ ?_ _) | (with_reducible refine below_via ‹_› ?_ ?_) | (with_reducible refine below_grow ?_ ?_ _ _) | omega | (simp; done) | (simp; omega)))⟩)
theorem c_l02Ok (x y : Int) (w : World) :
    Calls Tryd.prog 69 #[.agg #[.int .i64 x, .int .i64 y]] w fun e w' => e = .returned (.bool (pointB x y)) ∧ Below w.heap.size w w' := by
  go_enter Tryd.func69, Tryd.ntmps69
  go_wp2_with (first | (go_at_call 64; refine (c_l00In _ _ _ _).mono ?_; rintro e w' ⟨rfl, rfl⟩))
  all_goals (go_ret; go_light; refine ⟨by simp_all [pointB], by (repeat' (first | (with_reducible exact Below.refl _ _) | (with_reducible refine Below.alloc ?_ ?_ _) | (with_reducible refine Below.drew ?_) | (with_reducible refine below_drewN ?_ _) | (with_reducible refine Below.setCell ?_ ?_ _) | (with_reducible refine below_via ‹_› ?_ ?_) | (with_reducible refine below_grow ?_ ?_ _ _) | omega | (simp; done) | (simp; omega)))⟩)

def workB (name : ByteArray) (x y load minutes start stop : Int) : Bool :=
  nameB name && pointB x y && inB load 0 1000 && inB minutes 1 600 && inB start 0 4320 && inB stop (start + minutes) 4320
end Go.Proofs.YtocpgnpdnoidnaaDoor
