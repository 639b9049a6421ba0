/- Points and works: the checks of both sides. -/
import Derived.Test.YtfnfkpmkppkleaaDoorTWork
namespace Go.Proofs.YtfnfkpmkppkleaaDoor
open Go.RowKit
set_option maxRecDepth 100000

def pointB (x y : Int) : Bool := inB x 0 200000 && inB y 0 200000
theorem c_ValidPoint (x y : Int) (w : World) :
    Calls Tryd.prog 127 #[.agg #[.int .i64 x, .int .i64 y]] w fun e w' => e = .returned (.bool (pointB x y)) ∧ Below w.heap.size w w' := by
  go_enter Tryd.func127, Tryd.ntmps127
  go_wp2_with (first | (go_at_call 124; refine (c_within _ _ _ _).mono ?_; rintro e w' ⟨rfl, rfl⟩))
  all_goals (go_ret; go_light; refine ⟨by simp_all [pointB], by (repeat' (first | (with_reducible exact Below.refl _ _) | (with_reducible refine Below.alloc ?_ ?_ _) | (with_reducible refine Below.drew ?_) | (with_reducible refine below_drewN ?_ _) | (with_reducible refine Below.setCell ?_ ?_ _) | (with_reducible refine below_via ‹_› ?_ ?_) | (with_reducible refine below_grow ?_ ?_ _ _) | omega | (simp; done) | (simp; omega)))⟩)
theorem c_l02Ok (x y : Int) (w : World) :
    Calls Tryd.prog 125 #[.agg #[.int .i64 x, .int .i64 y]] w fun e w' => e = .returned (.bool (pointB x y)) ∧ Below w.heap.size w w' := by
  go_enter Tryd.func125, Tryd.ntmps125
  go_wp2_with (first | (go_at_call 106; refine (c_l00In _ _ _ _).mono ?_; rintro e w' ⟨rfl, rfl⟩))
  all_goals (go_ret; go_light; refine ⟨by simp_all [pointB], by (repeat' (first | (with_reducible exact Below.refl _ _) | (with_reducible refine Below.alloc ?_ ?_ _) | (with_reducible refine Below.drew ?_) | (with_reducible refine below_drewN ?_ _) | (with_reducible refine Below.setCell ?_ ?_ _) | (with_reducible refine below_via ‹_› ?_ ?_) | (with_reducible refine below_grow ?_ ?_ _ _) | omega | (simp; done) | (simp; omega)))⟩)
theorem c_isVoyageTime (n : Int) (w : World) :
    Calls Tryd.prog 128 #[.int .i64 n] w fun e w' => e = .returned (.bool (inB n 0 4320)) ∧ w = w' := by
  go_enter Tryd.func128, Tryd.ntmps128
  go_wp2_with (first | (go_at_call 124; refine (c_within _ _ _ _).mono ?_; rintro e w' ⟨rfl, rfl⟩))
  go_ret
  exact ⟨rfl, rfl⟩

def workB (name : ByteArray) (x y load minutes start stop : Int) : Bool :=
  nameB name && pointB x y && inB load 0 1000 && inB minutes 1 600 && inB start 0 4320 && inB stop (start + minutes) 4320
set_option maxHeartbeats 400000 in
theorem c_l25Work (bk off : Nat) (s : ByteArray) (x y a b c d : Int) (w : World) (hbk : bk < w.heap.size) (hs : s.size ≤ maxLen) (h0 : w.cell? ⟨bk, off, none⟩ = some (.string s)) (h1 : w.cell? ⟨bk, off+1, none⟩ = some (.int .i64 x))
    (h2 : w.cell? ⟨bk, off+2, none⟩ = some (.int .i64 y)) (h3 : w.cell? ⟨bk, off+3, none⟩ = some (.int .i64 a)) (h4 : w.cell? ⟨bk, off+4, none⟩ = some (.int .i64 b)) (h5 : w.cell? ⟨bk, off+5, none⟩ = some (.int .i64 c)) (h6 : w.cell? ⟨bk, off+6, none⟩ = some (.int .i64 d)) :
    Calls Tryd.prog 67 #[.pointer (some ⟨bk, off, none⟩)] w fun e w' => e = .returned (.bool (workB s x y a b c d)) ∧ Below w.heap.size w w' := by
  have r0 := cellr h0
  have r1 := cellr h1
  have r2 := cellr h2
  have r3 := cellr h3
  have r4 := cellr h4
  have r5 := cellr h5
  have r6 := cellr h6
  cases hq1 : nameB s
  · go_enter Tryd.func67, Tryd.ntmps67
    go_wp2
    (refine wp_region_quiet_below (by kernel_rfl) (by kernel_rfl) ?_; (repeat (first | go_big_quiet_step ((first | (go_at_call 121; first | exact regrown_bool_pure (c_l01Name _ _ (by assumption)) (by assumption) | exact regrown_of_pure (c_l01Name _ _ (by assumption))) | (go_at_call 106; first | exact regrown_bool_pure (c_l00In _ _ _ _) (by assumption) | exact regrown_of_pure (c_l00In _ _ _ _)) | (go_at_call 125; first | exact regrown_bool (c_l02Ok _ _ _) (by assumption) | exact regrown_of (c_l02Ok _ _ _)))) | quiet_step ((first | (go_at_call 121; first | exact regrown_bool_pure (c_l01Name _ _ (by assumption)) (by assumption) | exact regrown_of_pure (c_l01Name _ _ (by assumption))) | (go_at_call 106; first | exact regrown_bool_pure (c_l00In _ _ _ _) (by assumption) | exact regrown_of_pure (c_l00In _ _ _ _)) | (go_at_call 125; first | exact regrown_bool (c_l02Ok _ _ _) (by assumption) | exact regrown_of (c_l02Ok _ _ _)))))); refine wpQuiet_nil ?_; intro w1 hw'; have hb := below_of_regrown hw'; clear hw'; obtain ⟨hc, hf⟩ := bcell hb; have hz := hb.size; (try simp at hz); (try have hz0 : ∀ b, b < w.heap.size → b < w1.heap.size := fun b h => by omega); (try have hz1 : w.heap.size < w1.heap.size := by omega); (try have hz2 : w.heap.size + 1 < w1.heap.size := by omega); (try have hz3 : w.heap.size + 2 < w1.heap.size := by omega))
    go_wp2
    go_ret
    refine ⟨ret_bool ?_, by (repeat' (first | (with_reducible exact Below.refl _ _) | (with_reducible refine Below.alloc ?_ ?_ _) | (with_reducible refine Below.drew ?_) | (with_reducible refine below_drewN ?_ _) | (with_reducible refine Below.setCell ?_ ?_ _) | (with_reducible refine below_via ‹_› ?_ ?_) | (with_reducible refine below_grow ?_ ?_ _ _) | omega | (simp; done) | (simp; omega)))⟩
    go_light
    simp [workB, *]
  cases hq2 : pointB x y
  · go_enter Tryd.func67, Tryd.ntmps67
    go_wp2
    (refine wp_region_quiet_below (by kernel_rfl) (by kernel_rfl) ?_; (repeat (first | go_big_quiet_step ((first | (go_at_call 121; first | exact regrown_bool_pure (c_l01Name _ _ (by assumption)) (by assumption) | exact regrown_of_pure (c_l01Name _ _ (by assumption))) | (go_at_call 106; first | exact regrown_bool_pure (c_l00In _ _ _ _) (by assumption) | exact regrown_of_pure (c_l00In _ _ _ _)) | (go_at_call 125; first | exact regrown_bool (c_l02Ok _ _ _) (by assumption) | exact regrown_of (c_l02Ok _ _ _)))) | quiet_step ((first | (go_at_call 121; first | exact regrown_bool_pure (c_l01Name _ _ (by assumption)) (by assumption) | exact regrown_of_pure (c_l01Name _ _ (by assumption))) | (go_at_call 106; first | exact regrown_bool_pure (c_l00In _ _ _ _) (by assumption) | exact regrown_of_pure (c_l00In _ _ _ _)) | (go_at_call 125; first | exact regrown_bool (c_l02Ok _ _ _) (by assumption) | exact regrown_of (c_l02Ok _ _ _)))))); refine wpQuiet_nil ?_; intro w1 hw'; have hb := below_of_regrown hw'; clear hw'; obtain ⟨hc, hf⟩ := bcell hb; have hz := hb.size; (try simp at hz); (try have hz0 : ∀ b, b < w.heap.size → b < w1.heap.size := fun b h => by omega); (try have hz1 : w.heap.size < w1.heap.size := by omega); (try have hz2 : w.heap.size + 1 < w1.heap.size := by omega); (try have hz3 : w.heap.size + 2 < w1.heap.size := by omega))
    go_wp2
    go_ret
    refine ⟨ret_bool ?_, by (repeat' (first | (with_reducible exact Below.refl _ _) | (with_reducible refine Below.alloc ?_ ?_ _) | (with_reducible refine Below.drew ?_) | (with_reducible refine below_drewN ?_ _) | (with_reducible refine Below.setCell ?_ ?_ _) | (with_reducible refine below_via ‹_› ?_ ?_) | (with_reducible refine below_grow ?_ ?_ _ _) | omega | (simp; done) | (simp; omega)))⟩
    go_light
    simp [workB, *]
  cases hq3 : inB a 0 1000
  · go_enter Tryd.func67, Tryd.ntmps67
    go_wp2
    (refine wp_region_quiet_below (by kernel_rfl) (by kernel_rfl) ?_; (repeat (first | go_big_quiet_step ((first | (go_at_call 121; first | exact regrown_bool_pure (c_l01Name _ _ (by assumption)) (by assumption) | exact regrown_of_pure (c_l01Name _ _ (by assumption))) | (go_at_call 106; first | exact regrown_bool_pure (c_l00In _ _ _ _) (by assumption) | exact regrown_of_pure (c_l00In _ _ _ _)) | (go_at_call 125; first | exact regrown_bool (c_l02Ok _ _ _) (by assumption) | exact regrown_of (c_l02Ok _ _ _)))) | quiet_step ((first | (go_at_call 121; first | exact regrown_bool_pure (c_l01Name _ _ (by assumption)) (by assumption) | exact regrown_of_pure (c_l01Name _ _ (by assumption))) | (go_at_call 106; first | exact regrown_bool_pure (c_l00In _ _ _ _) (by assumption) | exact regrown_of_pure (c_l00In _ _ _ _)) | (go_at_call 125; first | exact regrown_bool (c_l02Ok _ _ _) (by assumption) | exact regrown_of (c_l02Ok _ _ _)))))); refine wpQuiet_nil ?_; intro w1 hw'; have hb := below_of_regrown hw'; clear hw'; obtain ⟨hc, hf⟩ := bcell hb; have hz := hb.size; (try simp at hz); (try have hz0 : ∀ b, b < w.heap.size → b < w1.heap.size := fun b h => by omega); (try have hz1 : w.heap.size < w1.heap.size := by omega); (try have hz2 : w.heap.size + 1 < w1.heap.size := by omega); (try have hz3 : w.heap.size + 2 < w1.heap.size := by omega))
    go_wp2
    go_ret
    refine ⟨ret_bool ?_, by (repeat' (first | (with_reducible exact Below.refl _ _) | (with_reducible refine Below.alloc ?_ ?_ _) | (with_reducible refine Below.drew ?_) | (with_reducible refine below_drewN ?_ _) | (with_reducible refine Below.setCell ?_ ?_ _) | (with_reducible refine below_via ‹_› ?_ ?_) | (with_reducible refine below_grow ?_ ?_ _ _) | omega | (simp; done) | (simp; omega)))⟩
    go_light
    simp [workB, *]
  cases hq4 : inB b 1 600
  · go_enter Tryd.func67, Tryd.ntmps67
    go_wp2
    (refine wp_region_quiet_below (by kernel_rfl) (by kernel_rfl) ?_; (repeat (first | go_big_quiet_step ((first | (go_at_call 121; first | exact regrown_bool_pure (c_l01Name _ _ (by assumption)) (by assumption) | exact regrown_of_pure (c_l01Name _ _ (by assumption))) | (go_at_call 106; first | exact regrown_bool_pure (c_l00In _ _ _ _) (by assumption) | exact regrown_of_pure (c_l00In _ _ _ _)) | (go_at_call 125; first | exact regrown_bool (c_l02Ok _ _ _) (by assumption) | exact regrown_of (c_l02Ok _ _ _)))) | quiet_step ((first | (go_at_call 121; first | exact regrown_bool_pure (c_l01Name _ _ (by assumption)) (by assumption) | exact regrown_of_pure (c_l01Name _ _ (by assumption))) | (go_at_call 106; first | exact regrown_bool_pure (c_l00In _ _ _ _) (by assumption) | exact regrown_of_pure (c_l00In _ _ _ _)) | (go_at_call 125; first | exact regrown_bool (c_l02Ok _ _ _) (by assumption) | exact regrown_of (c_l02Ok _ _ _)))))); refine wpQuiet_nil ?_; intro w1 hw'; have hb := below_of_regrown hw'; clear hw'; obtain ⟨hc, hf⟩ := bcell hb; have hz := hb.size; (try simp at hz); (try have hz0 : ∀ b, b < w.heap.size → b < w1.heap.size := fun b h => by omega); (try have hz1 : w.heap.size < w1.heap.size := by omega); (try have hz2 : w.heap.size + 1 < w1.heap.size := by omega); (try have hz3 : w.heap.size + 2 < w1.heap.size := by omega))
    go_wp2
    go_ret
    refine ⟨ret_bool ?_, by (repeat' (first | (with_reducible exact Below.refl _ _) | (with_reducible refine Below.alloc ?_ ?_ _) | (with_reducible refine Below.drew ?_) | (with_reducible refine below_drewN ?_ _) | (with_reducible refine Below.setCell ?_ ?_ _) | (with_reducible refine below_via ‹_› ?_ ?_) | (with_reducible refine below_grow ?_ ?_ _ _) | omega | (simp; done) | (simp; omega)))⟩
    go_light
    simp [workB, *]
  have e4 := inB_true hq4
  cases hq5 : inB c 0 4320
  · go_enter Tryd.func67, Tryd.ntmps67
    go_wp2
    (refine wp_region_quiet_below (by kernel_rfl) (by kernel_rfl) ?_; (repeat (first | go_big_quiet_step ((first | (go_at_call 121; first | exact regrown_bool_pure (c_l01Name _ _ (by assumption)) (by assumption) | exact regrown_of_pure (c_l01Name _ _ (by assumption))) | (go_at_call 106; first | exact regrown_bool_pure (c_l00In _ _ _ _) (by assumption) | exact regrown_of_pure (c_l00In _ _ _ _)) | (go_at_call 125; first | exact regrown_bool (c_l02Ok _ _ _) (by assumption) | exact regrown_of (c_l02Ok _ _ _)))) | quiet_step ((first | (go_at_call 121; first | exact regrown_bool_pure (c_l01Name _ _ (by assumption)) (by assumption) | exact regrown_of_pure (c_l01Name _ _ (by assumption))) | (go_at_call 106; first | exact regrown_bool_pure (c_l00In _ _ _ _) (by assumption) | exact regrown_of_pure (c_l00In _ _ _ _)) | (go_at_call 125; first | exact regrown_bool (c_l02Ok _ _ _) (by assumption) | exact regrown_of (c_l02Ok _ _ _)))))); refine wpQuiet_nil ?_; intro w1 hw'; have hb := below_of_regrown hw'; clear hw'; obtain ⟨hc, hf⟩ := bcell hb; have hz := hb.size; (try simp at hz); (try have hz0 : ∀ b, b < w.heap.size → b < w1.heap.size := fun b h => by omega); (try have hz1 : w.heap.size < w1.heap.size := by omega); (try have hz2 : w.heap.size + 1 < w1.heap.size := by omega); (try have hz3 : w.heap.size + 2 < w1.heap.size := by omega))
    go_wp2
    go_ret
    refine ⟨ret_bool ?_, by (repeat' (first | (with_reducible exact Below.refl _ _) | (with_reducible refine Below.alloc ?_ ?_ _) | (with_reducible refine Below.drew ?_) | (with_reducible refine below_drewN ?_ _) | (with_reducible refine Below.setCell ?_ ?_ _) | (with_reducible refine below_via ‹_› ?_ ?_) | (with_reducible refine below_grow ?_ ?_ _ _) | omega | (simp; done) | (simp; omega)))⟩
    go_light
    simp [workB, *]
  have e5 := inB_true hq5
  cases hq6 : inB d (c + b) 4320
  · go_enter Tryd.func67, Tryd.ntmps67
    go_wp2
    (refine wp_region_quiet_below (by kernel_rfl) (by kernel_rfl) ?_; (repeat (first | go_big_quiet_step ((first | (go_at_call 121; first | exact regrown_bool_pure (c_l01Name _ _ (by assumption)) (by assumption) | exact regrown_of_pure (c_l01Name _ _ (by assumption))) | (go_at_call 106; first | exact regrown_bool_pure (c_l00In _ _ _ _) (by assumption) | exact regrown_of_pure (c_l00In _ _ _ _)) | (go_at_call 125; first | exact regrown_bool (c_l02Ok _ _ _) (by assumption) | exact regrown_of (c_l02Ok _ _ _)))) | quiet_step ((first | (go_at_call 121; first | exact regrown_bool_pure (c_l01Name _ _ (by assumption)) (by assumption) | exact regrown_of_pure (c_l01Name _ _ (by assumption))) | (go_at_call 106; first | exact regrown_bool_pure (c_l00In _ _ _ _) (by assumption) | exact regrown_of_pure (c_l00In _ _ _ _)) | (go_at_call 125; first | exact regrown_bool (c_l02Ok _ _ _) (by assumption) | exact regrown_of (c_l02Ok _ _ _)))))); refine wpQuiet_nil ?_; intro w1 hw'; have hb := below_of_regrown hw'; clear hw'; obtain ⟨hc, hf⟩ := bcell hb; have hz := hb.size; (try simp at hz); (try have hz0 : ∀ b, b < w.heap.size → b < w1.heap.size := fun b h => by omega); (try have hz1 : w.heap.size < w1.heap.size := by omega); (try have hz2 : w.heap.size + 1 < w1.heap.size := by omega); (try have hz3 : w.heap.size + 2 < w1.heap.size := by omega))
    go_wp2
    go_ret
    refine ⟨ret_bool ?_, by (repeat' (first | (with_reducible exact Below.refl _ _) | (with_reducible refine Below.alloc ?_ ?_ _) | (with_reducible refine Below.drew ?_) | (with_reducible refine below_drewN ?_ _) | (with_reducible refine Below.setCell ?_ ?_ _) | (with_reducible refine below_via ‹_› ?_ ?_) | (with_reducible refine below_grow ?_ ?_ _ _) | omega | (simp; done) | (simp; omega)))⟩
    go_light
    simp [workB, *]
  go_enter Tryd.func67, Tryd.ntmps67
  go_wp2
  (refine wp_region_quiet_below (by kernel_rfl) (by kernel_rfl) ?_; (repeat (first | go_big_quiet_step ((first | (go_at_call 121; first | exact regrown_bool_pure (c_l01Name _ _ (by assumption)) (by assumption) | exact regrown_of_pure (c_l01Name _ _ (by assumption))) | (go_at_call 106; first | exact regrown_bool_pure (c_l00In _ _ _ _) (by assumption) | exact regrown_of_pure (c_l00In _ _ _ _)) | (go_at_call 125; first | exact regrown_bool (c_l02Ok _ _ _) (by assumption) | exact regrown_of (c_l02Ok _ _ _)))) | quiet_step ((first | (go_at_call 121; first | exact regrown_bool_pure (c_l01Name _ _ (by assumption)) (by assumption) | exact regrown_of_pure (c_l01Name _ _ (by assumption))) | (go_at_call 106; first | exact regrown_bool_pure (c_l00In _ _ _ _) (by assumption) | exact regrown_of_pure (c_l00In _ _ _ _)) | (go_at_call 125; first | exact regrown_bool (c_l02Ok _ _ _) (by assumption) | exact regrown_of (c_l02Ok _ _ _)))))); refine wpQuiet_nil ?_; intro w1 hw'; have hb := below_of_regrown hw'; clear hw'; obtain ⟨hc, hf⟩ := bcell hb; have hz := hb.size; (try simp at hz); (try have hz0 : ∀ b, b < w.heap.size → b < w1.heap.size := fun b h => by omega); (try have hz1 : w.heap.size < w1.heap.size := by omega); (try have hz2 : w.heap.size + 1 < w1.heap.size := by omega); (try have hz3 : w.heap.size + 2 < w1.heap.size := by omega))
  go_wp2
  go_ret
  refine ⟨ret_bool ?_, by (repeat' (first | (with_reducible exact Below.refl _ _) | (with_reducible refine Below.alloc ?_ ?_ _) | (with_reducible refine Below.drew ?_) | (with_reducible refine below_drewN ?_ _) | (with_reducible refine Below.setCell ?_ ?_ _) | (with_reducible refine below_via ‹_› ?_ ?_) | (with_reducible refine below_grow ?_ ?_ _ _) | omega | (simp; done) | (simp; omega)))⟩
  go_light
  simp [workB, *]
set_option maxHeartbeats 400000 in
theorem c_impl_ValidWork (s : ByteArray) (x y a b c d : Int) (w : World) (hs : s.size ≤ maxLen) :
    Calls Tryd.prog 70 #[.agg #[.string s, .int .i64 x, .int .i64 y, .int .i64 a, .int .i64 b, .int .i64 c, .int .i64 d]] w fun e w' => e = .returned (.bool (workB s x y a b c d)) ∧ Below w.heap.size w w' := by
  cases hb' : inB b 1 600
  · go_enter Tryd.func70, Tryd.ntmps70
    go_wp2_with (first | (go_at_call 123; refine (c_IsName _ _ (by assumption)).mono ?_; rintro e w' ⟨rfl, rfl⟩) | (go_at_call 124; refine (c_within _ _ _ _).mono ?_; rintro e w' ⟨rfl, rfl⟩) | (go_at_call 127; refine (c_ValidPoint _ _ _).mono ?_; rintro e w1 ⟨rfl, hb⟩; obtain ⟨hc, hf⟩ := bcell hb; have hz := hb.size; (try simp at hz); (try have hz0 : ∀ b, b < w.heap.size → b < w1.heap.size := fun b h => by omega); (try have hz1 : w.heap.size < w1.heap.size := by omega); (try have hz2 : w.heap.size + 1 < w1.heap.size := by omega); (try have hz3 : w.heap.size + 2 < w1.heap.size := by omega)) | (go_at_call 128; refine (c_isVoyageTime _ _).mono ?_; rintro e w' ⟨rfl, rfl⟩))
    all_goals (go_ret; go_light; refine ⟨by simp_all [workB], by (repeat' (first | (with_reducible exact Below.refl _ _) | (with_reducible refine Below.alloc ?_ ?_ _) | (with_reducible refine Below.drew ?_) | (with_reducible refine below_drewN ?_ _) | (with_reducible refine Below.setCell ?_ ?_ _) | (with_reducible refine below_via ‹_› ?_ ?_) | (with_reducible refine below_grow ?_ ?_ _ _) | omega | (simp; done) | (simp; omega)))⟩)
  · have hb2 := inB_true hb'
    cases hc' : inB c 0 4320
    · go_enter Tryd.func70, Tryd.ntmps70
      go_wp2_with (first | (go_at_call 123; refine (c_IsName _ _ (by assumption)).mono ?_; rintro e w' ⟨rfl, rfl⟩) | (go_at_call 124; refine (c_within _ _ _ _).mono ?_; rintro e w' ⟨rfl, rfl⟩) | (go_at_call 127; refine (c_ValidPoint _ _ _).mono ?_; rintro e w1 ⟨rfl, hb⟩; obtain ⟨hc, hf⟩ := bcell hb; have hz := hb.size; (try simp at hz); (try have hz0 : ∀ b, b < w.heap.size → b < w1.heap.size := fun b h => by omega); (try have hz1 : w.heap.size < w1.heap.size := by omega); (try have hz2 : w.heap.size + 1 < w1.heap.size := by omega); (try have hz3 : w.heap.size + 2 < w1.heap.size := by omega)) | (go_at_call 128; refine (c_isVoyageTime _ _).mono ?_; rintro e w' ⟨rfl, rfl⟩))
      all_goals (go_ret; go_light; refine ⟨by simp_all [workB], by (repeat' (first | (with_reducible exact Below.refl _ _) | (with_reducible refine Below.alloc ?_ ?_ _) | (with_reducible refine Below.drew ?_) | (with_reducible refine below_drewN ?_ _) | (with_reducible refine Below.setCell ?_ ?_ _) | (with_reducible refine below_via ‹_› ?_ ?_) | (with_reducible refine below_grow ?_ ?_ _ _) | omega | (simp; done) | (simp; omega)))⟩)
    · have hc2 := inB_true hc'
      go_enter Tryd.func70, Tryd.ntmps70
      go_wp2_with (first | (go_at_call 123; refine (c_IsName _ _ (by assumption)).mono ?_; rintro e w' ⟨rfl, rfl⟩) | (go_at_call 124; refine (c_within _ _ _ _).mono ?_; rintro e w' ⟨rfl, rfl⟩) | (go_at_call 127; refine (c_ValidPoint _ _ _).mono ?_; rintro e w1 ⟨rfl, hb⟩; obtain ⟨hc, hf⟩ := bcell hb; have hz := hb.size; (try simp at hz); (try have hz0 : ∀ b, b < w.heap.size → b < w1.heap.size := fun b h => by omega); (try have hz1 : w.heap.size < w1.heap.size := by omega); (try have hz2 : w.heap.size + 1 < w1.heap.size := by omega); (try have hz3 : w.heap.size + 2 < w1.heap.size := by omega)) | (go_at_call 128; refine (c_isVoyageTime _ _).mono ?_; rintro e w' ⟨rfl, rfl⟩))
      all_goals (go_ret; go_light; refine ⟨by simp_all [workB], by (repeat' (first | (with_reducible exact Below.refl _ _) | (with_reducible refine Below.alloc ?_ ?_ _) | (with_reducible refine Below.drew ?_) | (with_reducible refine below_drewN ?_ _) | (with_reducible refine Below.setCell ?_ ?_ _) | (with_reducible refine below_via ‹_› ?_ ?_) | (with_reducible refine below_grow ?_ ?_ _ _) | omega | (simp; done) | (simp; omega)))⟩)
end Go.Proofs.YtfnfkpmkppkleaaDoor
