/- The text of a point, both sides. -/
import Derived.Test.YtocpgnpdnoidnaaDoorList
import Derived.Test.YtocpgnpdnoidnaaDoorWork
import Derived.Deep.RegionHeld3
namespace Go.Proofs.YtocpgnpdnoidnaaDoor
open Go.RowKit Go.Sort
set_option linter.unusedVariables false
set_option maxRecDepth 100000

def pointL (x y : Int) : List UInt8 := Lib.itoa x ++ 44 :: Lib.itoa y
theorem two_cat (c : UInt8) (a b : List UInt8) : bs a ++ (⟨#[c]⟩ : ByteArray) ++ bs b = bs (a ++ c :: b) := by
  have e : (⟨#[c]⟩ : ByteArray) = bs [c] := rfl
  rw [e, bs_app, bs_app]; simp
theorem pointL_size {x y : Int} (hx : I64 x) (hy : I64 y) : (bs (pointL x y)).size ≤ 43 := by
  have h1 := Lib.itoa_length_le x hx.1 hx.2
  have h2 := Lib.itoa_length_le y hy.1 hy.2
  rw [bs_size, pointL, List.length_append, List.length_cons]; omega
set_option maxHeartbeats 1000000 in
theorem c_l02Text (x y : Int) (w : World) (hx : I64 x) (hy : I64 y) :
    Calls Tryd.prog 71 #[.agg #[.int .i64 x, .int .i64 y]] w fun e w' => e = .returned (.string (bs (pointL x y))) ∧ Below w.heap.size w w' := by
  have HC := hid (two_cat 44 (Lib.itoa x) (Lib.itoa y))
  have sx := decS_size hx
  have sy := decS_size hy
  have r1 : ¬ (9223372036854775807 < (decS x).size + 1) := by omega
  have r2 : ¬ (9223372036854775807 ≤ (decS x).size) := by omega
  have r3 : ¬ (9223372036854775807 < (decS x).size + 1 + (decS y).size) := by omega
  have q0 : (w.alloc (.cells #[.int .i64 x, .int .i64 y] 28)).cell? ⟨w.heap.size, 0, none⟩ = some (.int .i64 x) := by simp
  have q1 : (w.alloc (.cells #[.int .i64 x, .int .i64 y] 28)).cell? ⟨w.heap.size, 1, none⟩ = some (.int .i64 y) := by simp
  have g0 := cellr q0
  have g1 := cellr q1
  clear q0 q1
  go_enter Tryd.func71, Tryd.ntmps71
  go_wp2_with fail
  (refine wp_region_quiet_below (by kernel_rfl) (by kernel_rfl) ?_; (repeat (first | go_big_quiet_step ((first | (go_at_call 63; exact regrown_of (c_l01Dec _ _ (by first | assumption | (unfold I64; omega)))))) | quiet_step ((first | (go_at_call 63; exact regrown_of (c_l01Dec _ _ (by first | assumption | (unfold I64; omega)))))))); refine wpQuiet_nil ?_; intro w1 hw'; have hb := below_of_regrown hw'; clear hw'; obtain ⟨hc, hf⟩ := bcell hb; have hz := hb.size; (try simp at hz); (try have hz0 : ∀ b, b < w.heap.size → b < w1.heap.size := fun b h => by omega); (try have hz1 : w.heap.size < w1.heap.size := by omega); (try have hz2 : w.heap.size + 1 < w1.heap.size := by omega); (try have hz3 : w.heap.size + 2 < w1.heap.size := by omega))
  go_wp2_with fail
  go_ret
  rw [pointL, ← HC.out]
  exact ⟨rfl, by (repeat' (first | (with_reducible exact Below.refl _ _) | (with_reducible refine Below.alloc ?_ ?_ _) | (with_reducible refine Below.drew ?_) | (with_reducible refine below_drewN ?_ _) | (with_reducible refine Below.setCell ?_ ?_ _) | (with_reducible refine below_via ‹_› ?_ ?_) | (with_reducible refine below_grow ?_ ?_ _ _) | omega | (simp; done) | (simp; omega)))⟩
def pointR (x y : Int) : ByteArray := if pointB x y then bs (pointL x y) else ⟨#[]⟩
theorem pointR_ok {x y : Int} (h : pointB x y = true) : pointR x y = bs (pointL x y) := by rw [pointR, if_pos h]
theorem pointR_no {x y : Int} (h : pointB x y = false) : pointR x y = ⟨#[]⟩ := by rw [pointR, h]; rfl
set_option maxHeartbeats 1000000 in
theorem c_PointText (x y : Int) (w : World) (hx : I64 x) (hy : I64 y) (hp : Pow w) :
    Calls Tryd.prog 43 #[.agg #[.int .i64 x, .int .i64 y]] w fun e w' => e = .returned (.string (pointR x y)) ∧ Below w.heap.size w w' := by
  cases hq : pointB x y
  · have HR := hid (pointR_no hq)
    go_enter Tryd.func43, Tryd.ntmps43
    go_wp2_with (first | (go_at_call 75; refine (c_ValidPoint x y _).mono ?_; rintro e w1 ⟨rfl, hb⟩; obtain ⟨hc, hf⟩ := bcell hb; have hz := hb.size; (try simp at hz); (try have hz0 : ∀ b, b < w.heap.size → b < w1.heap.size := fun b h => by omega); (try have hz1 : w.heap.size < w1.heap.size := by omega); (try have hz2 : w.heap.size + 1 < w1.heap.size := by omega); (try have hz3 : w.heap.size + 2 < w1.heap.size := by omega)))
    go_ret
    rw [HR.out]
    exact ⟨rfl, by (repeat' (first | (with_reducible exact Below.refl _ _) | (with_reducible refine Below.alloc ?_ ?_ _) | (with_reducible refine Below.drew ?_) | (with_reducible refine below_drewN ?_ _) | (with_reducible refine Below.setCell ?_ ?_ _) | (with_reducible refine below_via ‹_› ?_ ?_) | (with_reducible refine below_grow ?_ ?_ _ _) | omega | (simp; done) | (simp; omega)))⟩
  · have HR := hid (pointR_ok hq)
    have HC := hid (two_cat 44 (Lib.itoa x) (Lib.itoa y))
    have sx := decS_size hx
    have sy := decS_size hy
    have r1 : ¬ (9223372036854775807 < (decS x).size + 1) := by omega
    have r2 : ¬ (9223372036854775807 ≤ (decS x).size) := by omega
    have r3 : ¬ (9223372036854775807 < (decS x).size + 1 + (decS y).size) := by omega
    go_enter Tryd.func43, Tryd.ntmps43
    go_wp2_with (first | (go_at_call 75; refine (c_ValidPoint x y _).mono ?_; rintro e w1 ⟨rfl, hb⟩; obtain ⟨hc, hf⟩ := bcell hb; have hz := hb.size; (try simp at hz); (try have hz0 : ∀ b, b < w.heap.size → b < w1.heap.size := fun b h => by omega); (try have hz1 : w.heap.size < w1.heap.size := by omega); (try have hz2 : w.heap.size + 1 < w1.heap.size := by omega); (try have hz3 : w.heap.size + 2 < w1.heap.size := by omega)))
    have q0 : w1.cell? ⟨w.heap.size, 0, none⟩ = some (.int .i64 x) := by simp [hc]
    have q1 : w1.cell? ⟨w.heap.size, 1, none⟩ = some (.int .i64 y) := by simp [hc]
    have g0 := cellr q0
    have g1 := cellr q1
    have hB1 : Below w.heap.size w w1 := by (repeat' (first | (with_reducible exact Below.refl _ _) | (with_reducible refine Below.alloc ?_ ?_ _) | (with_reducible refine Below.drew ?_) | (with_reducible refine below_drewN ?_ _) | (with_reducible refine Below.setCell ?_ ?_ _) | (with_reducible refine below_via ‹_› ?_ ?_) | (with_reducible refine below_grow ?_ ?_ _ _) | omega | (simp; done) | (simp; omega)))
    have hp1 := hp.at hB1
    clear q0 q1 hc hf hb
    (refine wp_region_quiet_below (by kernel_rfl) (by kernel_rfl) ?_; (repeat (first | go_big_quiet_step ((first | (go_at_call 41; exact regrown_of (c_Decimal _ _ (by first | assumption | (unfold I64; omega)) (hp1.at (by (repeat' (first | (with_reducible exact Below.refl _ _) | (with_reducible refine Below.alloc ?_ ?_ _) | (with_reducible refine Below.drew ?_) | (with_reducible refine below_drewN ?_ _) | (with_reducible refine Below.setCell ?_ ?_ _) | (with_reducible refine below_via ‹_› ?_ ?_) | (with_reducible refine below_grow ?_ ?_ _ _) | omega | (simp; done) | (simp; omega))))))))) | quiet_step ((first | (go_at_call 41; exact regrown_of (c_Decimal _ _ (by first | assumption | (unfold I64; omega)) (hp1.at (by (repeat' (first | (with_reducible exact Below.refl _ _) | (with_reducible refine Below.alloc ?_ ?_ _) | (with_reducible refine Below.drew ?_) | (with_reducible refine below_drewN ?_ _) | (with_reducible refine Below.setCell ?_ ?_ _) | (with_reducible refine below_via ‹_› ?_ ?_) | (with_reducible refine below_grow ?_ ?_ _ _) | omega | (simp; done) | (simp; omega))))))))))); refine wpQuiet_nil ?_; intro w1 hw'; have hb := below_of_regrown hw'; clear hw'; obtain ⟨hc, hf⟩ := bcell hb; have hz := hb.size; (try simp at hz); (try have hz0 : ∀ b, b < w.heap.size → b < w1.heap.size := fun b h => by omega); (try have hz1 : w.heap.size < w1.heap.size := by omega); (try have hz2 : w.heap.size + 1 < w1.heap.size := by omega); (try have hz3 : w.heap.size + 2 < w1.heap.size := by omega))
    go_wp2_with fail
    go_ret
    rw [HR.out, pointL, ← HC.out]
    exact ⟨rfl, by (repeat' (first | (with_reducible exact Below.refl _ _) | (with_reducible refine Below.alloc ?_ ?_ _) | (with_reducible refine Below.drew ?_) | (with_reducible refine below_drewN ?_ _) | (with_reducible refine Below.setCell ?_ ?_ _) | (with_reducible refine below_via ‹_› ?_ ?_) | (with_reducible refine below_grow ?_ ?_ _ _) | omega | (simp; done) | (simp; omega)))⟩
end Go.Proofs.YtocpgnpdnoidnaaDoor
