/- Ships: the checks of both sides, the copy, the size. -/
import Derived.Test.YtfnfkpmkppkleaaDoorTShip
namespace Go.Proofs.YtfnfkpmkppkleaaDoor
open Go.RowKit

def shipB (s : ByteArray) (a b c : Int) : Bool := nameB s && inB a 1 2000 && inB b 0 1000 && inB c 1 200

theorem c_l25Ship (bk off : Nat) (s : ByteArray) (a b c : Int) (w : World) (hs : s.size ≤ maxLen) (h0 : w.cell? ⟨bk, off, none⟩ = some (.string s)) (h1 : w.cell? ⟨bk, off+1, none⟩ = some (.int .i64 a))
    (h2 : w.cell? ⟨bk, off+2, none⟩ = some (.int .i64 b)) (h3 : w.cell? ⟨bk, off+3, none⟩ = some (.int .i64 c)) :
    Calls Tryd.prog 63 #[.pointer (some ⟨bk, off, none⟩)] w fun e w' => e = .returned (.bool (shipB s a b c)) ∧ w = w' := by
  go_enter Tryd.func63, Tryd.ntmps63
  go_wp2_with (first | (go_at_call 121; refine (c_l01Name _ _ (by assumption)).mono ?_; rintro e w' ⟨rfl, rfl⟩) | (go_at_call 106; refine (c_l00In _ _ _ _).mono ?_; rintro e w' ⟨rfl, rfl⟩))
  all_goals (go_ret; go_light; simp_all [shipB])


theorem c_impl_ValidShip (s : ByteArray) (a b c : Int) (w : World) (hs : s.size ≤ maxLen) :
    Calls Tryd.prog 65 #[.agg #[.string s, .int .i64 a, .int .i64 b, .int .i64 c]] w fun e w' => e = .returned (.bool (shipB s a b c)) ∧ Below w.heap.size w w' := by
  go_enter Tryd.func65, Tryd.ntmps65
  go_wp2_with (first | (go_at_call 123; refine (c_IsName _ _ (by assumption)).mono ?_; rintro e w' ⟨rfl, rfl⟩) | (go_at_call 124; refine (c_within _ _ _ _).mono ?_; rintro e w' ⟨rfl, rfl⟩))
  all_goals (go_ret; go_light; refine ⟨by simp_all [shipB], by (repeat' (first | (with_reducible exact Below.refl _ _) | (with_reducible refine Below.alloc ?_ ?_ _) | (with_reducible refine Below.drew ?_) | (with_reducible refine below_drewN ?_ _) | (with_reducible refine Below.setCell ?_ ?_ _) | (with_reducible refine below_via ‹_› ?_ ?_) | (with_reducible refine below_grow ?_ ?_ _ _) | omega | (simp; done) | (simp; omega)))⟩)

end Go.Proofs.YtfnfkpmkppkleaaDoor
