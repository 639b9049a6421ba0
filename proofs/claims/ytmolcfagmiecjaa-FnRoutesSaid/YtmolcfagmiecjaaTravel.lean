/- Roots, distances, travel times on both sides. -/
import Derived.Test.YtmolcfagmiecjaaShip
import Derived.Test.YtmolcfagmiecjaaWork
namespace Go.Proofs.Ytmolcfagmiecjaa
open Go.RowKit Go.Sort
set_option maxRecDepth 100000

/-- the search for a root between two bounds -/
def rootW (n low high : Int) : Int :=
  if h : low < high then
    if ((low + high + 1) / 2) * ((low + high + 1) / 2) ≤ n then rootW n ((low + high + 1) / 2) high else rootW n low ((low + high + 1) / 2 - 1)
  else low
termination_by (high - low).toNat
decreasing_by all_goals omega
theorem rootW_end {n low high : Int} (h : ¬ low < high) : rootW n low high = low := by rw [rootW, dif_neg h]
theorem rootW_up {n low high : Int} (h : low < high) (h2 : ((low + high + 1) / 2) * ((low + high + 1) / 2) ≤ n) : rootW n low high = rootW n ((low + high + 1) / 2) high := by rw [rootW, dif_pos h, if_pos h2]
theorem rootW_down {n low high : Int} (h : low < high) (h2 : ¬ ((low + high + 1) / 2) * ((low + high + 1) / 2) ≤ n) : rootW n low high = rootW n low ((low + high + 1) / 2 - 1) := by rw [rootW, dif_pos h, if_neg h2]
theorem rootW_bd (k : Nat) : ∀ (n low high : Int), (high - low).toNat ≤ k → low ≤ high → low ≤ rootW n low high ∧ rootW n low high ≤ high := by
  induction k with
  | zero => intro n low high hk h; rw [rootW_end (by omega)]; omega
  | succ k ih =>
    intro n low high hk h
    by_cases hl : low < high
    · by_cases h2 : ((low + high + 1) / 2) * ((low + high + 1) / 2) ≤ n
      · rw [rootW_up hl h2]; have := ih n ((low + high + 1) / 2) high (by omega) (by omega); omega
      · rw [rootW_down hl h2]; have := ih n low ((low + high + 1) / 2 - 1) (by omega) (by omega); omega
    · rw [rootW_end hl]; omega
def rootZ (n : Int) : Int := rootW n 0 3037000499
theorem rootZ_bd (n : Int) : 0 ≤ rootZ n ∧ rootZ n ≤ 3037000499 := rootW_bd _ n 0 3037000499 (Nat.le_refl _) (by omega)

set_option maxHeartbeats 400000 in
theorem c_l01Root (n : Int) (w : World) (h0 : 0 ≤ n) (h1 : n ≤ 1000000000000) :
    Calls Try.prog 122 #[.int .i64 n] w fun e w' => e = .returned (.int .i64 (rootZ n)) ∧ w = w' := by
  go_enter Try.func122, Try.ntmps122
  go_wp2
  go_loop [3, 4] (fun l h => ∃ low high : Int, l = .int .i64 low ∧ h = .int .i64 high ∧ 0 ≤ low ∧ low ≤ high ∧ high ≤ 3037000499 ∧ rootZ n = rootW n low high) (fun l h => (intOf h - intOf l).toNat)
  case atStart => exact ⟨0, 3037000499, rfl, rfl, by omega, by omega, by omega, rfl⟩
  case round =>
    obtain ⟨low, high, rfl, rfl, hl0, hlh, hh, hr⟩ := hrel
    by_cases hlt : low < high
    · have hm := mul_bd (a := (low + high + 1) / 2) (b := (low + high + 1) / 2) (A := 3037000499) (B := 3037000499) (by omega) (by omega) (by omega) (by omega)
      by_cases h2 : ((low + high + 1) / 2) * ((low + high + 1) / 2) ≤ n
      · have HR := hid (hr.trans (rootW_up hlt h2)); clear hr
        go_wp2
        go_round
        case rel => exact ⟨(low + high + 1) / 2, high, rfl, rfl, by omega, by omega, by omega, HR.out⟩
        case measure => simp [intOf]; omega
      · have HR := hid (hr.trans (rootW_down hlt h2)); clear hr
        go_wp2
        go_round
        case rel => exact ⟨low, (low + high + 1) / 2 - 1, rfl, rfl, by omega, by omega, by omega, HR.out⟩
        case measure => simp [intOf]; omega
    · have HR := hid (hr.trans (rootW_end hlt)); clear hr
      go_wp2
      go_ret
      exact ⟨ret_int HR.out.symm, rfl⟩
set_option maxHeartbeats 400000 in
theorem c_RootOf (n : Int) (w : World) (h0 : 0 ≤ n) (h1 : n ≤ 1000000000000) :
    Calls Try.prog 119 #[.int .i64 n] w fun e w' => e = .returned (.int .i64 (rootZ n)) ∧ w = w' := by
  go_enter Try.func119, Try.ntmps119
  go_wp2
  go_loop [3, 4] (fun l h => ∃ low high : Int, l = .int .i64 low ∧ h = .int .i64 high ∧ 0 ≤ low ∧ low ≤ high ∧ high ≤ 3037000499 ∧ rootZ n = rootW n low high) (fun l h => (intOf h - intOf l).toNat)
  case atStart => exact ⟨0, 3037000499, rfl, rfl, by omega, by omega, by omega, rfl⟩
  case round =>
    obtain ⟨low, high, rfl, rfl, hl0, hlh, hh, hr⟩ := hrel
    by_cases hlt : low < high
    · have hm := mul_bd (a := (low + high + 1) / 2) (b := (low + high + 1) / 2) (A := 3037000499) (B := 3037000499) (by omega) (by omega) (by omega) (by omega)
      by_cases h2 : ((low + high + 1) / 2) * ((low + high + 1) / 2) ≤ n
      · have HR := hid (hr.trans (rootW_up hlt h2)); clear hr
        go_wp2
        go_round
        case rel => exact ⟨(low + high + 1) / 2, high, rfl, rfl, by omega, by omega, by omega, HR.out⟩
        case measure => simp [intOf]; omega
      · have HR := hid (hr.trans (rootW_down hlt h2)); clear hr
        go_wp2
        go_round
        case rel => exact ⟨low, (low + high + 1) / 2 - 1, rfl, rfl, by omega, by omega, by omega, HR.out⟩
        case measure => simp [intOf]; omega
    · have HR := hid (hr.trans (rootW_end hlt)); clear hr
      go_wp2
      go_ret
      exact ⟨ret_int HR.out.symm, rfl⟩

def sqD (x y x' y' : Int) : Int := (x - x') * (x - x') + (y - y') * (y - y')
theorem sq_bd {a : Int} (h0 : -200000 ≤ a) (h1 : a ≤ 200000) : 0 ≤ a * a ∧ a * a ≤ 40000000000 := by
  rcases Int.le_total 0 a with h | h
  · exact mul_bd (A := 200000) (B := 200000) h h1 h h1
  · have := mul_bd (a := -a) (b := -a) (A := 200000) (B := 200000) (by omega) (by omega) (by omega) (by omega)
    rw [Int.neg_mul_neg] at this; exact this
theorem pointB_true {x y : Int} (h : pointB x y = true) : 0 ≤ x ∧ x ≤ 200000 ∧ 0 ≤ y ∧ y ≤ 200000 := by
  simp only [pointB, Bool.and_eq_true] at h
  have := inB_true h.1; have := inB_true h.2; omega
theorem sqD_bd {x y x' y' : Int} (h : pointB x y = true) (h' : pointB x' y' = true) : 0 ≤ sqD x y x' y' ∧ sqD x y x' y' ≤ 80000000000 := by
  have := pointB_true h; have := pointB_true h'
  have := sq_bd (a := x - x') (by omega) (by omega); have := sq_bd (a := y - y') (by omega) (by omega)
  unfold sqD; omega
theorem c_squared (x y x' y' : Int) (w : World) (h : pointB x y = true) (h' : pointB x' y' = true) :
    Calls Try.prog 120 #[.agg #[.int .i64 x, .int .i64 y], .agg #[.int .i64 x', .int .i64 y']] w fun e w' => e = .returned (.int .i64 (sqD x y x' y')) ∧ Below w.heap.size w w' := by
  have e1 := pointB_true h
  have e2 := pointB_true h'
  have e3 := sq_bd (a := x - x') (by omega) (by omega)
  have e4 := sq_bd (a := y - y') (by omega) (by omega)
  go_enter Try.func120, Try.ntmps120
  go_wp2
  go_ret
  exact ⟨ret_int rfl, by (repeat' (first | (with_reducible exact Below.refl _ _) | (with_reducible refine Below.alloc ?_ ?_ _) | (with_reducible refine Below.drew ?_) | (with_reducible refine below_drewN ?_ _) | (with_reducible refine Below.setCell ?_ ?_ _) | (with_reducible refine below_via ‹_› ?_ ?_) | (with_reducible refine below_grow ?_ ?_ _ _) | omega | (simp; done) | (simp; omega)))⟩
theorem c_l02Square (x y x' y' : Int) (w : World) (h : pointB x y = true) (h' : pointB x' y' = true) :
    Calls Try.prog 123 #[.agg #[.int .i64 x, .int .i64 y], .agg #[.int .i64 x', .int .i64 y']] w fun e w' => e = .returned (.int .i64 (sqD x y x' y')) ∧ Below w.heap.size w w' := by
  have e1 := pointB_true h
  have e2 := pointB_true h'
  have e3 := sq_bd (a := x - x') (by omega) (by omega)
  have e4 := sq_bd (a := y - y') (by omega) (by omega)
  go_enter Try.func123, Try.ntmps123
  go_wp2
  go_ret
  exact ⟨ret_int rfl, by (repeat' (first | (with_reducible exact Below.refl _ _) | (with_reducible refine Below.alloc ?_ ?_ _) | (with_reducible refine Below.drew ?_) | (with_reducible refine below_drewN ?_ _) | (with_reducible refine Below.setCell ?_ ?_ _) | (with_reducible refine below_via ‹_› ?_ ?_) | (with_reducible refine below_grow ?_ ?_ _ _) | omega | (simp; done) | (simp; omega)))⟩

def distD (x y x' y' : Int) : Int := rootZ (sqD x y x' y')
theorem distD_bd {x y x' y' : Int} (h : pointB x y = true) (h' : pointB x' y' = true) : 0 ≤ distD x y x' y' ∧ distD x y x' y' ≤ 3037000499 := rootZ_bd _
theorem c_l02Apart (x y x' y' : Int) (w : World) (h : pointB x y = true) (h' : pointB x' y' = true) :
    Calls Try.prog 117 #[.agg #[.int .i64 x, .int .i64 y], .agg #[.int .i64 x', .int .i64 y']] w fun e w' => e = .returned (.int .i64 (distD x y x' y')) ∧ Below w.heap.size w w' := by
  have hb := sqD_bd h h'
  go_enter Try.func117, Try.ntmps117
  go_wp2_with (first | (go_at_call 123; refine (c_l02Square _ _ _ _ _ (by assumption) (by assumption)).mono ?_; rintro e w1 ⟨rfl, hb⟩; obtain ⟨hc, hf⟩ := bcell hb; have hz := hb.size; (try simp at hz); (try have hz0 : ∀ b, b < w.heap.size → b < w1.heap.size := fun b h => by omega); (try have hz1 : w.heap.size < w1.heap.size := by omega); (try have hz2 : w.heap.size + 1 < w1.heap.size := by omega); (try have hz3 : w.heap.size + 2 < w1.heap.size := by omega)) | (go_at_call 122; refine (c_l01Root _ _ (by omega) (by omega)).mono ?_; rintro e w' ⟨rfl, rfl⟩))
  go_ret
  exact ⟨ret_int rfl, by (repeat' (first | (with_reducible exact Below.refl _ _) | (with_reducible refine Below.alloc ?_ ?_ _) | (with_reducible refine Below.drew ?_) | (with_reducible refine below_drewN ?_ _) | (with_reducible refine Below.setCell ?_ ?_ _) | (with_reducible refine below_via ‹_› ?_ ?_) | (with_reducible refine below_grow ?_ ?_ _ _) | omega | (simp; done) | (simp; omega)))⟩
/-! ### points handed over as a slice -/
set_option maxHeartbeats 400000 in
theorem c_arePoints (bk : Nat) (x y x' y' : Int) (w : World) (hbk : bk < w.heap.size) (h0 : w.cell? ⟨bk, 0, none⟩ = some (.int .i64 x)) (h1 : w.cell? ⟨bk, 1, none⟩ = some (.int .i64 y)) (h2 : w.cell? ⟨bk, 2, none⟩ = some (.int .i64 x')) (h3 : w.cell? ⟨bk, 3, none⟩ = some (.int .i64 y')) :
    Calls Try.prog 71 #[.slice (some ⟨bk, 0, none⟩) 2 2] w fun e w' => e = .returned (.bool (pointB x y && pointB x' y')) ∧ Below w.heap.size w w' := by
  cases hq1 : pointB x y
  · go_enter Try.func71, Try.ntmps71
    go_wp2
    refine wp_loop_rounds 3 ?_
    rw [rounds_succ]
    go_wp2_with (first | (go_at_call 103; refine (c_ValidPoint _ _ _).mono ?_; rintro e w1 ⟨rfl, hb⟩; obtain ⟨hc, hf⟩ := bcell hb; have hz := hb.size; (try simp at hz); (try have hz0 : ∀ b, b < w.heap.size → b < w1.heap.size := fun b h => by omega); (try have hz1 : w.heap.size < w1.heap.size := by omega); (try have hz2 : w.heap.size + 1 < w1.heap.size := by omega); (try have hz3 : w.heap.size + 2 < w1.heap.size := by omega)))
    all_goals try (rw [rounds_succ])
    all_goals try (go_wp2_with (first | (go_at_call 103; refine (c_ValidPoint _ _ _).mono ?_; rintro e w1 ⟨rfl, hb⟩; obtain ⟨hc, hf⟩ := bcell hb; have hz := hb.size; (try simp at hz); (try have hz0 : ∀ b, b < w.heap.size → b < w1.heap.size := fun b h => by omega); (try have hz1 : w.heap.size < w1.heap.size := by omega); (try have hz2 : w.heap.size + 1 < w1.heap.size := by omega); (try have hz3 : w.heap.size + 2 < w1.heap.size := by omega))))
    all_goals try (rw [rounds_succ])
    all_goals try (go_wp2_with (first | (go_at_call 103; refine (c_ValidPoint _ _ _).mono ?_; rintro e w1 ⟨rfl, hb⟩; obtain ⟨hc, hf⟩ := bcell hb; have hz := hb.size; (try simp at hz); (try have hz0 : ∀ b, b < w.heap.size → b < w1.heap.size := fun b h => by omega); (try have hz1 : w.heap.size < w1.heap.size := by omega); (try have hz2 : w.heap.size + 1 < w1.heap.size := by omega); (try have hz3 : w.heap.size + 2 < w1.heap.size := by omega))))
    go_ret
    exact ⟨ret_bool (by simp [*]), by (repeat' (first | (with_reducible exact Below.refl _ _) | (with_reducible refine Below.alloc ?_ ?_ _) | (with_reducible refine Below.drew ?_) | (with_reducible refine below_drewN ?_ _) | (with_reducible refine Below.setCell ?_ ?_ _) | (with_reducible refine below_via ‹_› ?_ ?_) | (with_reducible refine below_grow ?_ ?_ _ _) | omega | (simp; done) | (simp; omega)))⟩
  cases hq2 : pointB x' y'
  · go_enter Try.func71, Try.ntmps71
    go_wp2
    refine wp_loop_rounds 3 ?_
    rw [rounds_succ]
    go_wp2_with (first | (go_at_call 103; refine (c_ValidPoint _ _ _).mono ?_; rintro e w1 ⟨rfl, hb⟩; obtain ⟨hc, hf⟩ := bcell hb; have hz := hb.size; (try simp at hz); (try have hz0 : ∀ b, b < w.heap.size → b < w1.heap.size := fun b h => by omega); (try have hz1 : w.heap.size < w1.heap.size := by omega); (try have hz2 : w.heap.size + 1 < w1.heap.size := by omega); (try have hz3 : w.heap.size + 2 < w1.heap.size := by omega)))
    all_goals try (rw [rounds_succ])
    all_goals try (go_wp2_with (first | (go_at_call 103; refine (c_ValidPoint _ _ _).mono ?_; rintro e w1 ⟨rfl, hb⟩; obtain ⟨hc, hf⟩ := bcell hb; have hz := hb.size; (try simp at hz); (try have hz0 : ∀ b, b < w.heap.size → b < w1.heap.size := fun b h => by omega); (try have hz1 : w.heap.size < w1.heap.size := by omega); (try have hz2 : w.heap.size + 1 < w1.heap.size := by omega); (try have hz3 : w.heap.size + 2 < w1.heap.size := by omega))))
    all_goals try (rw [rounds_succ])
    all_goals try (go_wp2_with (first | (go_at_call 103; refine (c_ValidPoint _ _ _).mono ?_; rintro e w1 ⟨rfl, hb⟩; obtain ⟨hc, hf⟩ := bcell hb; have hz := hb.size; (try simp at hz); (try have hz0 : ∀ b, b < w.heap.size → b < w1.heap.size := fun b h => by omega); (try have hz1 : w.heap.size < w1.heap.size := by omega); (try have hz2 : w.heap.size + 1 < w1.heap.size := by omega); (try have hz3 : w.heap.size + 2 < w1.heap.size := by omega))))
    go_ret
    exact ⟨ret_bool (by simp [*]), by (repeat' (first | (with_reducible exact Below.refl _ _) | (with_reducible refine Below.alloc ?_ ?_ _) | (with_reducible refine Below.drew ?_) | (with_reducible refine below_drewN ?_ _) | (with_reducible refine Below.setCell ?_ ?_ _) | (with_reducible refine below_via ‹_› ?_ ?_) | (with_reducible refine below_grow ?_ ?_ _ _) | omega | (simp; done) | (simp; omega)))⟩
  go_enter Try.func71, Try.ntmps71
  go_wp2
  refine wp_loop_rounds 3 ?_
  rw [rounds_succ]
  go_wp2_with (first | (go_at_call 103; refine (c_ValidPoint _ _ _).mono ?_; rintro e w1 ⟨rfl, hb⟩; obtain ⟨hc, hf⟩ := bcell hb; have hz := hb.size; (try simp at hz); (try have hz0 : ∀ b, b < w.heap.size → b < w1.heap.size := fun b h => by omega); (try have hz1 : w.heap.size < w1.heap.size := by omega); (try have hz2 : w.heap.size + 1 < w1.heap.size := by omega); (try have hz3 : w.heap.size + 2 < w1.heap.size := by omega)))
  all_goals try (rw [rounds_succ])
  all_goals try (go_wp2_with (first | (go_at_call 103; refine (c_ValidPoint _ _ _).mono ?_; rintro e w1 ⟨rfl, hb⟩; obtain ⟨hc, hf⟩ := bcell hb; have hz := hb.size; (try simp at hz); (try have hz0 : ∀ b, b < w.heap.size → b < w1.heap.size := fun b h => by omega); (try have hz1 : w.heap.size < w1.heap.size := by omega); (try have hz2 : w.heap.size + 1 < w1.heap.size := by omega); (try have hz3 : w.heap.size + 2 < w1.heap.size := by omega))))
  all_goals try (rw [rounds_succ])
  all_goals try (go_wp2_with (first | (go_at_call 103; refine (c_ValidPoint _ _ _).mono ?_; rintro e w1 ⟨rfl, hb⟩; obtain ⟨hc, hf⟩ := bcell hb; have hz := hb.size; (try simp at hz); (try have hz0 : ∀ b, b < w.heap.size → b < w1.heap.size := fun b h => by omega); (try have hz1 : w.heap.size < w1.heap.size := by omega); (try have hz2 : w.heap.size + 1 < w1.heap.size := by omega); (try have hz3 : w.heap.size + 2 < w1.heap.size := by omega))))
  go_ret
  exact ⟨ret_bool (by simp [*]), by (repeat' (first | (with_reducible exact Below.refl _ _) | (with_reducible refine Below.alloc ?_ ?_ _) | (with_reducible refine Below.drew ?_) | (with_reducible refine below_drewN ?_ _) | (with_reducible refine Below.setCell ?_ ?_ _) | (with_reducible refine below_via ‹_› ?_ ?_) | (with_reducible refine below_grow ?_ ?_ _ _) | omega | (simp; done) | (simp; omega)))⟩
theorem c_Distance (x y x' y' : Int) (w : World) (h : pointB x y = true) (h' : pointB x' y' = true) :
    Calls Try.prog 107 #[.agg #[.int .i64 x, .int .i64 y], .agg #[.int .i64 x', .int .i64 y']] w fun e w' => e = .returned (.int .i64 (distD x y x' y')) ∧ Below w.heap.size w w' := by
  have hb := sqD_bd h h'
  have hpp : (pointB x y && pointB x' y') = true := by rw [h, h']; rfl
  go_enter Try.func107, Try.ntmps107
  go_wp2_with (first | (go_at_call 71; refine (c_arePoints _ x y x' y' _ (by simp) (by simp [go_sem]) (by simp [go_sem]) (by simp [go_sem]) (by simp [go_sem])).mono ?_; rintro e w1 ⟨rfl, hb⟩; obtain ⟨hc, hf⟩ := bcell hb; have hz := hb.size; (try simp at hz); (try have hz0 : ∀ b, b < w.heap.size → b < w1.heap.size := fun b h => by omega); (try have hz1 : w.heap.size < w1.heap.size := by omega); (try have hz2 : w.heap.size + 1 < w1.heap.size := by omega); (try have hz3 : w.heap.size + 2 < w1.heap.size := by omega)) | (go_at_call 120; refine (c_squared _ _ _ _ _ (by assumption) (by assumption)).mono ?_; rintro e w1 ⟨rfl, hb⟩; obtain ⟨hc, hf⟩ := bcell hb; have hz := hb.size; (try simp at hz); (try have hz0 : ∀ b, b < w.heap.size → b < w1.heap.size := fun b h => by omega); (try have hz1 : w.heap.size < w1.heap.size := by omega); (try have hz2 : w.heap.size + 1 < w1.heap.size := by omega); (try have hz3 : w.heap.size + 2 < w1.heap.size := by omega)) | (go_at_call 119; refine (c_RootOf _ _ (by omega) (by omega)).mono ?_; rintro e w' ⟨rfl, rfl⟩))
  go_ret
  exact ⟨ret_int rfl, by (repeat' (first | (with_reducible exact Below.refl _ _) | (with_reducible refine Below.alloc ?_ ?_ _) | (with_reducible refine Below.drew ?_) | (with_reducible refine below_drewN ?_ _) | (with_reducible refine Below.setCell ?_ ?_ _) | (with_reducible refine below_via ‹_› ?_ ?_) | (with_reducible refine below_grow ?_ ?_ _ _) | omega | (simp; done) | (simp; omega)))⟩
def travelT (speed x y x' y' : Int) : Int := (distD x y x' y' + speed - 1) / speed
theorem travelT_bd {speed x y x' y' : Int} (h1 : 1 ≤ speed) (h2 : speed ≤ 2000) (h : pointB x y = true) (h' : pointB x' y' = true) : 0 ≤ travelT speed x y x' y' ∧ travelT speed x y x' y' ≤ 3037002499 := by
  have hd := distD_bd h h'
  unfold travelT
  refine ⟨Int.ediv_nonneg (by omega) (by omega), ?_⟩
  exact Int.le_trans (Int.ediv_le_self _ (by omega)) (by omega)
set_option maxHeartbeats 400000 in
theorem c_travel (s : ByteArray) (a b c x y x' y' : Int) (w : World) (h : pointB x y = true) (h' : pointB x' y' = true) (h1 : 1 ≤ a) (h2 : a ≤ 2000) :
    Calls Try.prog 72 #[.agg #[.string s, .int .i64 a, .int .i64 b, .int .i64 c], .agg #[.int .i64 x, .int .i64 y], .agg #[.int .i64 x', .int .i64 y']] w fun e w' => e = .returned (.int .i64 (travelT a x y x' y')) ∧ Below w.heap.size w w' := by
  have hd := distD_bd h h'
  have hw1 : IntKind.i64.wrap (distD x y x' y' + a) = distD x y x' y' + a := IntWalk.i64_in _ (by omega)
  have hw2 : IntKind.i64.wrap (distD x y x' y' + a - 1) = distD x y x' y' + a - 1 := IntWalk.i64_in _ (by omega)
  go_enter Try.func72, Try.ntmps72
  go_wp2
  obtain ⟨w1, hw⟩ : ∃ z, z = ((w.alloc (Obj.cells #[.string s, .int .i64 a, .int .i64 b, .int .i64 c] 25)).alloc (Obj.cells #[.int .i64 x, .int .i64 y] 33)).alloc (Obj.cells #[.int .i64 x', .int .i64 y'] 33) := ⟨_, rfl⟩
  rw [← hw]
  have r0 := cellr (show w1.cell? ⟨w.heap.size, 1, none⟩ = some (.int .i64 a) by rw [hw]; simp [go_sem])
  have r1 := cellr (show w1.cell? ⟨w.heap.size + 1, 0, none⟩ = some (.int .i64 x) by rw [hw]; simp [go_sem])
  have r2 := cellr (show w1.cell? ⟨w.heap.size + 1, 1, none⟩ = some (.int .i64 y) by rw [hw]; simp [go_sem])
  have r3 := cellr (show w1.cell? ⟨w.heap.size + 1 + 1, 0, none⟩ = some (.int .i64 x') by rw [hw]; simp [go_sem])
  have r4 := cellr (show w1.cell? ⟨w.heap.size + 1 + 1, 1, none⟩ = some (.int .i64 y') by rw [hw]; simp [go_sem])
  have hB1 : Below w.heap.size w w1 := hw ▸ (by (repeat' (first | (with_reducible exact Below.refl _ _) | (with_reducible refine Below.alloc ?_ ?_ _) | (with_reducible refine Below.drew ?_) | (with_reducible refine below_drewN ?_ _) | (with_reducible refine Below.setCell ?_ ?_ _) | (with_reducible refine below_via ‹_› ?_ ?_) | (with_reducible refine below_grow ?_ ?_ _ _) | omega | (simp; done) | (simp; omega))))
  have hz1 := hB1.size
  clear hw
  (refine wp_region_quiet_below (by kernel_rfl) (by kernel_rfl) ?_; (repeat (first | go_big_quiet_step ((first | (go_at_call 107; exact regrown_of (c_Distance x y x' y' _ h h')))) | quiet_step ((first | (go_at_call 107; exact regrown_of (c_Distance x y x' y' _ h h')))))); refine wpQuiet_nil ?_; intro w1 hw'; have hb := below_of_regrown hw'; clear hw'; obtain ⟨hc, hf⟩ := bcell hb; have hz := hb.size; (try simp at hz); (try have hz0 : ∀ b, b < w.heap.size → b < w1.heap.size := fun b h => by omega); (try have hz1 : w.heap.size < w1.heap.size := by omega); (try have hz2 : w.heap.size + 1 < w1.heap.size := by omega); (try have hz3 : w.heap.size + 2 < w1.heap.size := by omega))
  go_wp2
  go_ret
  exact ⟨ret_int rfl, by (repeat' (first | (with_reducible exact Below.refl _ _) | (with_reducible refine Below.alloc ?_ ?_ _) | (with_reducible refine Below.drew ?_) | (with_reducible refine below_drewN ?_ _) | (with_reducible refine Below.setCell ?_ ?_ _) | (with_reducible refine below_via ‹_› ?_ ?_) | (with_reducible refine below_grow ?_ ?_ _ _) | omega | (simp; done) | (simp; omega)))⟩
set_option maxHeartbeats 400000 in
theorem c_l25Travel (bk off : Nat) (a x y x' y' : Int) (w : World) (hbk : bk < w.heap.size) (c1 : w.cell? ⟨bk, off + 1, none⟩ = some (.int .i64 a)) (h : pointB x y = true) (h' : pointB x' y' = true) (h1 : 1 ≤ a) (h2 : a ≤ 2000) :
    Calls Try.prog 101 #[.pointer (some ⟨bk, off, none⟩), .agg #[.int .i64 x, .int .i64 y], .agg #[.int .i64 x', .int .i64 y']] w fun e w' => e = .returned (.int .i64 (travelT a x y x' y')) ∧ Below w.heap.size w w' := by
  have hd := distD_bd h h'
  have hw1 : IntKind.i64.wrap (distD x y x' y' + a) = distD x y x' y' + a := IntWalk.i64_in _ (by omega)
  have hw2 : IntKind.i64.wrap (distD x y x' y' + a - 1) = distD x y x' y' + a - 1 := IntWalk.i64_in _ (by omega)
  go_enter Try.func101, Try.ntmps101
  go_wp2
  obtain ⟨w1, hw⟩ : ∃ z, z = (w.alloc (Obj.cells #[.int .i64 x, .int .i64 y] 33)).alloc (Obj.cells #[.int .i64 x', .int .i64 y'] 33) := ⟨_, rfl⟩
  rw [← hw]
  have hB1 : Below w.heap.size w w1 := hw ▸ (by (repeat' (first | (with_reducible exact Below.refl _ _) | (with_reducible refine Below.alloc ?_ ?_ _) | (with_reducible refine Below.drew ?_) | (with_reducible refine below_drewN ?_ _) | (with_reducible refine Below.setCell ?_ ?_ _) | (with_reducible refine below_via ‹_› ?_ ?_) | (with_reducible refine below_grow ?_ ?_ _ _) | omega | (simp; done) | (simp; omega))))
  have r0 := cellr ((hB1.cell (p := ⟨bk, off + 1, none⟩) hbk).trans c1)
  have r1 := cellr (show w1.cell? ⟨w.heap.size, 0, none⟩ = some (.int .i64 x) by rw [hw]; simp [go_sem])
  have r2 := cellr (show w1.cell? ⟨w.heap.size, 1, none⟩ = some (.int .i64 y) by rw [hw]; simp [go_sem])
  have r3 := cellr (show w1.cell? ⟨w.heap.size + 1, 0, none⟩ = some (.int .i64 x') by rw [hw]; simp [go_sem])
  have r4 := cellr (show w1.cell? ⟨w.heap.size + 1, 1, none⟩ = some (.int .i64 y') by rw [hw]; simp [go_sem])
  have hz1 := hB1.size
  clear hw
  (refine wp_region_quiet_below (by kernel_rfl) (by kernel_rfl) ?_; (repeat (first | go_big_quiet_step ((first | (go_at_call 117; exact regrown_of (c_l02Apart x y x' y' _ h h')))) | quiet_step ((first | (go_at_call 117; exact regrown_of (c_l02Apart x y x' y' _ h h')))))); refine wpQuiet_nil ?_; intro w1 hw'; have hb := below_of_regrown hw'; clear hw'; obtain ⟨hc, hf⟩ := bcell hb; have hz := hb.size; (try simp at hz); (try have hz0 : ∀ b, b < w.heap.size → b < w1.heap.size := fun b h => by omega); (try have hz1 : w.heap.size < w1.heap.size := by omega); (try have hz2 : w.heap.size + 1 < w1.heap.size := by omega); (try have hz3 : w.heap.size + 2 < w1.heap.size := by omega))
  go_wp2
  go_ret
  exact ⟨ret_int rfl, by (repeat' (first | (with_reducible exact Below.refl _ _) | (with_reducible refine Below.alloc ?_ ?_ _) | (with_reducible refine Below.drew ?_) | (with_reducible refine below_drewN ?_ _) | (with_reducible refine Below.setCell ?_ ?_ _) | (with_reducible refine below_via ‹_› ?_ ?_) | (with_reducible refine below_grow ?_ ?_ _ _) | omega | (simp; done) | (simp; omega)))⟩
def ttV (s : ByteArray) (a b c x y x' y' : Int) : Int := if shipB s a b c && (pointB x y && pointB x' y') then travelT a x y x' y' else 0
def ttC (s : ByteArray) (a b c x y x' y' : Int) : Int := if shipB s a b c && (pointB x y && pointB x' y') then 0 else 1
theorem shipB_true {s : ByteArray} {a b c : Int} (h : shipB s a b c = true) : 1 ≤ a ∧ a ≤ 2000 ∧ 0 ≤ b ∧ b ≤ 1000 ∧ 1 ≤ c ∧ c ≤ 200 := by
  simp only [shipB, Bool.and_eq_true] at h
  have := inB_true h.1.1.2; have := inB_true h.1.2; have := inB_true h.2; omega
set_option maxHeartbeats 1000000 in
theorem c_impl_TravelTime (s : ByteArray) (a b c x y x' y' : Int) (w : World) (hs : s.size ≤ maxLen) :
    Calls Try.prog 23 #[.agg #[.string s, .int .i64 a, .int .i64 b, .int .i64 c], .agg #[.int .i64 x, .int .i64 y], .agg #[.int .i64 x', .int .i64 y']] w fun e w' => e = .returned (.tuple #[.int .i64 (ttV s a b c x y x' y'), .int .i64 (ttC s a b c x y x' y')]) ∧ Below w.heap.size w w' := by
  cases hq1 : shipB s a b c
  · go_enter Try.func23, Try.ntmps23
    go_wp2_with (first | (go_at_call 70; refine (c_impl_ValidShip _ _ _ _ _ (by assumption)).mono ?_; rintro e w1 ⟨rfl, hb⟩; obtain ⟨hc, hf⟩ := bcell hb; have hz := hb.size; (try simp at hz); (try have hz0 : ∀ b, b < w.heap.size → b < w1.heap.size := fun b h => by omega); (try have hz1 : w.heap.size < w1.heap.size := by omega); (try have hz2 : w.heap.size + 1 < w1.heap.size := by omega); (try have hz3 : w.heap.size + 2 < w1.heap.size := by omega)) | (go_at_call 71; refine (c_arePoints _ x y x' y' _ (by simp) (by simp [go_sem]) (by simp [go_sem]) (by simp [go_sem]) (by simp [go_sem])).mono ?_; rintro e w1 ⟨rfl, hb⟩; obtain ⟨hc, hf⟩ := bcell hb; have hz := hb.size; (try simp at hz); (try have hz0 : ∀ b, b < w.heap.size → b < w1.heap.size := fun b h => by omega); (try have hz1 : w.heap.size < w1.heap.size := by omega); (try have hz2 : w.heap.size + 1 < w1.heap.size := by omega); (try have hz3 : w.heap.size + 2 < w1.heap.size := by omega)) | (go_at_call 72; refine (c_travel _ _ _ _ _ _ _ _ _ (by assumption) (by assumption) (by omega) (by omega)).mono ?_; rintro e w1 ⟨rfl, hb⟩; obtain ⟨hc, hf⟩ := bcell hb; have hz := hb.size; (try simp at hz); (try have hz0 : ∀ b, b < w.heap.size → b < w1.heap.size := fun b h => by omega); (try have hz1 : w.heap.size < w1.heap.size := by omega); (try have hz2 : w.heap.size + 1 < w1.heap.size := by omega); (try have hz3 : w.heap.size + 2 < w1.heap.size := by omega)))
    go_ret2
    exact ⟨by simp [ttV, ttC, *], by (repeat' (first | (with_reducible exact Below.refl _ _) | (with_reducible refine Below.alloc ?_ ?_ _) | (with_reducible refine Below.drew ?_) | (with_reducible refine below_drewN ?_ _) | (with_reducible refine Below.setCell ?_ ?_ _) | (with_reducible refine below_via ‹_› ?_ ?_) | (with_reducible refine below_grow ?_ ?_ _ _) | omega | (simp; done) | (simp; omega)))⟩
  have hb := shipB_true hq1
  cases hq2 : pointB x y
  · go_enter Try.func23, Try.ntmps23
    go_wp2_with (first | (go_at_call 70; refine (c_impl_ValidShip _ _ _ _ _ (by assumption)).mono ?_; rintro e w1 ⟨rfl, hb⟩; obtain ⟨hc, hf⟩ := bcell hb; have hz := hb.size; (try simp at hz); (try have hz0 : ∀ b, b < w.heap.size → b < w1.heap.size := fun b h => by omega); (try have hz1 : w.heap.size < w1.heap.size := by omega); (try have hz2 : w.heap.size + 1 < w1.heap.size := by omega); (try have hz3 : w.heap.size + 2 < w1.heap.size := by omega)) | (go_at_call 71; refine (c_arePoints _ x y x' y' _ (by simp) (by simp [go_sem]) (by simp [go_sem]) (by simp [go_sem]) (by simp [go_sem])).mono ?_; rintro e w1 ⟨rfl, hb⟩; obtain ⟨hc, hf⟩ := bcell hb; have hz := hb.size; (try simp at hz); (try have hz0 : ∀ b, b < w.heap.size → b < w1.heap.size := fun b h => by omega); (try have hz1 : w.heap.size < w1.heap.size := by omega); (try have hz2 : w.heap.size + 1 < w1.heap.size := by omega); (try have hz3 : w.heap.size + 2 < w1.heap.size := by omega)) | (go_at_call 72; refine (c_travel _ _ _ _ _ _ _ _ _ (by assumption) (by assumption) (by omega) (by omega)).mono ?_; rintro e w1 ⟨rfl, hb⟩; obtain ⟨hc, hf⟩ := bcell hb; have hz := hb.size; (try simp at hz); (try have hz0 : ∀ b, b < w.heap.size → b < w1.heap.size := fun b h => by omega); (try have hz1 : w.heap.size < w1.heap.size := by omega); (try have hz2 : w.heap.size + 1 < w1.heap.size := by omega); (try have hz3 : w.heap.size + 2 < w1.heap.size := by omega)))
    go_ret2
    exact ⟨by simp [ttV, ttC, *], by (repeat' (first | (with_reducible exact Below.refl _ _) | (with_reducible refine Below.alloc ?_ ?_ _) | (with_reducible refine Below.drew ?_) | (with_reducible refine below_drewN ?_ _) | (with_reducible refine Below.setCell ?_ ?_ _) | (with_reducible refine below_via ‹_› ?_ ?_) | (with_reducible refine below_grow ?_ ?_ _ _) | omega | (simp; done) | (simp; omega)))⟩
  cases hq3 : pointB x' y'
  · go_enter Try.func23, Try.ntmps23
    go_wp2_with (first | (go_at_call 70; refine (c_impl_ValidShip _ _ _ _ _ (by assumption)).mono ?_; rintro e w1 ⟨rfl, hb⟩; obtain ⟨hc, hf⟩ := bcell hb; have hz := hb.size; (try simp at hz); (try have hz0 : ∀ b, b < w.heap.size → b < w1.heap.size := fun b h => by omega); (try have hz1 : w.heap.size < w1.heap.size := by omega); (try have hz2 : w.heap.size + 1 < w1.heap.size := by omega); (try have hz3 : w.heap.size + 2 < w1.heap.size := by omega)) | (go_at_call 71; refine (c_arePoints _ x y x' y' _ (by simp) (by simp [go_sem]) (by simp [go_sem]) (by simp [go_sem]) (by simp [go_sem])).mono ?_; rintro e w1 ⟨rfl, hb⟩; obtain ⟨hc, hf⟩ := bcell hb; have hz := hb.size; (try simp at hz); (try have hz0 : ∀ b, b < w.heap.size → b < w1.heap.size := fun b h => by omega); (try have hz1 : w.heap.size < w1.heap.size := by omega); (try have hz2 : w.heap.size + 1 < w1.heap.size := by omega); (try have hz3 : w.heap.size + 2 < w1.heap.size := by omega)) | (go_at_call 72; refine (c_travel _ _ _ _ _ _ _ _ _ (by assumption) (by assumption) (by omega) (by omega)).mono ?_; rintro e w1 ⟨rfl, hb⟩; obtain ⟨hc, hf⟩ := bcell hb; have hz := hb.size; (try simp at hz); (try have hz0 : ∀ b, b < w.heap.size → b < w1.heap.size := fun b h => by omega); (try have hz1 : w.heap.size < w1.heap.size := by omega); (try have hz2 : w.heap.size + 1 < w1.heap.size := by omega); (try have hz3 : w.heap.size + 2 < w1.heap.size := by omega)))
    go_ret2
    exact ⟨by simp [ttV, ttC, *], by (repeat' (first | (with_reducible exact Below.refl _ _) | (with_reducible refine Below.alloc ?_ ?_ _) | (with_reducible refine Below.drew ?_) | (with_reducible refine below_drewN ?_ _) | (with_reducible refine Below.setCell ?_ ?_ _) | (with_reducible refine below_via ‹_› ?_ ?_) | (with_reducible refine below_grow ?_ ?_ _ _) | omega | (simp; done) | (simp; omega)))⟩
  go_enter Try.func23, Try.ntmps23
  go_wp2_with (first | (go_at_call 70; refine (c_impl_ValidShip _ _ _ _ _ (by assumption)).mono ?_; rintro e w1 ⟨rfl, hb⟩; obtain ⟨hc, hf⟩ := bcell hb; have hz := hb.size; (try simp at hz); (try have hz0 : ∀ b, b < w.heap.size → b < w1.heap.size := fun b h => by omega); (try have hz1 : w.heap.size < w1.heap.size := by omega); (try have hz2 : w.heap.size + 1 < w1.heap.size := by omega); (try have hz3 : w.heap.size + 2 < w1.heap.size := by omega)) | (go_at_call 71; refine (c_arePoints _ x y x' y' _ (by simp) (by simp [go_sem]) (by simp [go_sem]) (by simp [go_sem]) (by simp [go_sem])).mono ?_; rintro e w1 ⟨rfl, hb⟩; obtain ⟨hc, hf⟩ := bcell hb; have hz := hb.size; (try simp at hz); (try have hz0 : ∀ b, b < w.heap.size → b < w1.heap.size := fun b h => by omega); (try have hz1 : w.heap.size < w1.heap.size := by omega); (try have hz2 : w.heap.size + 1 < w1.heap.size := by omega); (try have hz3 : w.heap.size + 2 < w1.heap.size := by omega)) | (go_at_call 72; refine (c_travel _ _ _ _ _ _ _ _ _ (by assumption) (by assumption) (by omega) (by omega)).mono ?_; rintro e w1 ⟨rfl, hb⟩; obtain ⟨hc, hf⟩ := bcell hb; have hz := hb.size; (try simp at hz); (try have hz0 : ∀ b, b < w.heap.size → b < w1.heap.size := fun b h => by omega); (try have hz1 : w.heap.size < w1.heap.size := by omega); (try have hz2 : w.heap.size + 1 < w1.heap.size := by omega); (try have hz3 : w.heap.size + 2 < w1.heap.size := by omega)))
  go_ret2
  exact ⟨by simp [ttV, ttC, *], by (repeat' (first | (with_reducible exact Below.refl _ _) | (with_reducible refine Below.alloc ?_ ?_ _) | (with_reducible refine Below.drew ?_) | (with_reducible refine below_drewN ?_ _) | (with_reducible refine Below.setCell ?_ ?_ _) | (with_reducible refine below_via ‹_› ?_ ?_) | (with_reducible refine below_grow ?_ ?_ _ _) | omega | (simp; done) | (simp; omega)))⟩
end Go.Proofs.Ytmolcfagmiecjaa
