/- Tides: the height at a time, on both sides. -/
import Derived.Test.YtabbhlehbhadiaaGreatDoorTide
import Derived.Test.YtabbhlehbhadiaaGreatDoorCos
namespace Go.Proofs.YtabbhlehbhadiaaGreatDoor
open Go.RowKit Go.Sort
set_option maxRecDepth 100000

def htK (a b : Int) (xs : List Int) (t : Int) : Nat := (min ((t - a) / b) ((xs.length : Int) - 2)).toNat
def htJ (a b : Int) (xs : List Int) (t : Int) : Nat := (180 * (t - a - htK a b xs t * b) / b).toNat
def heightV (a b : Int) (xs : List Int) (t : Int) : Int :=
  xs.getD (htK a b xs t) 0 + divR ((xs.getD (htK a b xs t + 1) 0 - xs.getD (htK a b xs t) 0) * (1000000 - cosV (htJ a b xs t))) 2000000
def inTide (a b : Int) (xs : List Int) (t : Int) : Bool := inB t a (tideEnd a b xs)
theorem ht_facts {a b t : Int} {xs : List Int} (hv : tideB a b xs = true) (ht : inTide a b xs t = true) :
    min ((t - a) / b) ((xs.length : Int) - 2) = htK a b xs t ∧ htK a b xs t + 2 ≤ xs.length ∧ 0 ≤ t - a - htK a b xs t * b ∧ t - a - htK a b xs t * b ≤ b ∧ 180 * (t - a - htK a b xs t * b) / b = htJ a b xs t ∧ htJ a b xs t ≤ 180 := by
  obtain ⟨-, e1, e2, e3, e4, e5, e6, e7, e8⟩ := tideB_true hv
  obtain ⟨t0, t1⟩ := inB_true ht
  unfold tideEnd at t1
  have hq0 : 0 ≤ (t - a) / b := Int.ediv_nonneg (by omega) (by omega)
  have hk : min ((t - a) / b) ((xs.length : Int) - 2) = htK a b xs t := by unfold htK; omega
  have hle : (htK a b xs t : Int) ≤ (t - a) / b := by omega
  have hd := Int.mul_ediv_add_emod (t - a) b
  have hm0 := Int.emod_nonneg (t - a) (show b ≠ 0 by omega)
  have hm1 := Int.emod_lt_of_pos (t - a) (show 0 < b by omega)
  have hx0 : 0 ≤ t - a - htK a b xs t * b := by
    have : (htK a b xs t : Int) * b ≤ (t - a) / b * b := Int.mul_le_mul_of_nonneg_right hle (by omega)
    rw [Int.mul_comm b] at hd; omega
  have hx1 : t - a - htK a b xs t * b ≤ b := by
    by_cases hc : (t - a) / b ≤ (xs.length : Int) - 2
    · have : (htK a b xs t : Int) = (t - a) / b := by omega
      rw [this, Int.mul_comm]; omega
    · have : (htK a b xs t : Int) = (xs.length : Int) - 2 := by omega
      rw [this]
      have e : b * ((xs.length : Int) - 1) = ((xs.length : Int) - 2) * b + b := by rw [Int.mul_comm b, show (xs.length : Int) - 1 = ((xs.length : Int) - 2) + 1 by omega, Int.add_mul]; omega
      omega
  have hj0 : 0 ≤ 180 * (t - a - htK a b xs t * b) / b := Int.ediv_nonneg (by omega) (by omega)
  have hj1 : 180 * (t - a - htK a b xs t * b) / b ≤ 180 := by
    have : 180 * (t - a - htK a b xs t * b) / b ≤ 180 * b / b := Int.ediv_le_ediv (by omega) (by omega)
    rw [Int.mul_ediv_cancel _ (by omega)] at this; exact this
  exact ⟨hk, by omega, hx0, hx1, by unfold htJ; omega, by unfold htJ; omega⟩
theorem ht_getD {xs : List Int} {k : Nat} (h : k < xs.length) : xs.getD k 0 = xs[k] := by simp [List.getD_eq_getElem?_getD, h]
theorem ht_mul {y z c : Int} (hy : -100 ≤ y ∧ y ≤ 1500) (hz : -100 ≤ z ∧ z ≤ 1500) (hc : -1000000 ≤ c ∧ c ≤ 1000000) : -3200000000 ≤ (z - y) * (1000000 - c) ∧ (z - y) * (1000000 - c) ≤ 3200000000 := by
  have h1 := Int.mul_le_mul_of_nonneg_right (show z - y ≤ 1600 by omega) (show 0 ≤ 1000000 - c by omega)
  have h2 := Int.mul_le_mul_of_nonneg_right (show -1600 ≤ z - y by omega) (show 0 ≤ 1000000 - c by omega)
  constructor <;> omega
theorem height_bd {a b t : Int} {xs : List Int} (hv : tideB a b xs = true) (ht : inTide a b xs t = true) : -2000 ≤ heightV a b xs t ∧ heightV a b xs t ≤ 4000 := by
  obtain ⟨-, h2, -, -, -, -⟩ := ht_facts hv ht
  obtain ⟨hx, -⟩ := tideB_true hv
  unfold heightV
  rw [ht_getD (show htK a b xs t < xs.length by omega), ht_getD (show htK a b xs t + 1 < xs.length by omega)]
  have y := hx _ (List.getElem_mem (show htK a b xs t < xs.length by omega))
  have z := hx _ (List.getElem_mem (show htK a b xs t + 1 < xs.length by omega))
  have m := ht_mul y z (cosV_bd (htJ a b xs t))
  generalize (xs[htK a b xs t + 1] - xs[htK a b xs t]) * (1000000 - cosV (htJ a b xs t)) = q at m
  have : -1600 ≤ divR q 2000000 ∧ divR q 2000000 ≤ 1601 := by unfold divR; split <;> omega
  omega

set_option maxHeartbeats 1000000 in
theorem c_Tide_height (a b : Int) (v : Value) (xs : List Int) (t : Int) (w : World) (h : SlA w 0 1 encI v xs) (hv : tideB a b xs = true) (ht : inTide a b xs t = true) :
    Calls Tryz.prog 34 #[.agg #[.int .i64 a, .int .i64 b, v], .int .i64 t] w fun e w' => e = .returned (.int .i64 (heightV a b xs t)) ∧ Below w.heap.size w w' := by
  obtain ⟨ad, cap, bh, oh, rfl, hm, had, hx⟩ := h.uni
  obtain ⟨hin, e1, e2, e3, e4, e5, e6, e7, e8⟩ := tideB_true hv
  obtain ⟨t0, t1⟩ := inB_true ht
  obtain ⟨f1, f2, f3, f4, f5, f6⟩ := ht_facts hv ht
  have hbd := height_bd hv ht
  obtain ⟨rfl, hbb, -, hcc, hmc⟩ := had (by omega)
  have HV : heightV a b xs t = xs.getD (htK a b xs t) 0 + divR ((xs.getD (htK a b xs t + 1) 0 - xs.getD (htK a b xs t) 0) * (1000000 - cosV (htJ a b xs t))) 2000000 := rfl
  rw [ht_getD (show htK a b xs t < xs.length by omega), ht_getD (show htK a b xs t + 1 < xs.length by omega)] at HV
  obtain ⟨k, hk⟩ : ∃ k, k = htK a b xs t := ⟨_, rfl⟩
  obtain ⟨j, hj⟩ : ∃ j, j = htJ a b xs t := ⟨_, rfl⟩
  have hk1 : k < xs.length := by omega
  have hk2 : k + 1 < xs.length := by omega
  have HV' : heightV a b xs t = xs[k] + divR ((xs[k + 1] - xs[k]) * (1000000 - cosV j)) 2000000 := by subst hk hj; exact HV
  have g0 := hx k hk1 0 (by omega)
  have g1 := hx (k + 1) hk2 0 (by omega)
  simp only [encI, List.getD_cons_zero, Nat.add_zero, Nat.mul_one] at g0 g1
  have y := hin _ (List.getElem_mem hk1)
  have z := hin _ (List.getElem_mem hk2)
  have cb := cosV_bd j
  have m := ht_mul y z cb
  rw [← hk, ← hj] at f5
  rw [← hk] at f1 f2 f3 f4
  rw [← hj] at f6
  have hkb : 0 ≤ (k : Int) * b ∧ (k : Int) * b ≤ 64 * 1000 := mul_bd (by omega) (by omega) (by omega) (by omega)
  have H := hid HV'
  have hq0 : 0 ≤ (t - a) / b := Int.ediv_nonneg (by omega) (by omega)
  have hm1 : -1000000000000 ≤ (xs[k + 1] - xs[k]) * (1000000 - cosV j) := Int.le_trans (by decide) m.1
  have hm2 : (xs[k + 1] - xs[k]) * (1000000 - cosV j) ≤ 1000000000000 := Int.le_trans m.2 (by decide)
  have hw9 : (k : Int) + 1 < xs.length := by omega
  clear HV HV' hx hin hk hj h hv ht
  generalize heightV a b xs t = hh at H hbd ⊢
  have tmax : t ≤ 143999999 := by omega
  have hkk : ((t - a) / b = k ∧ (t - a) / b ≤ (xs.length : Int) - 2) ∨ ((xs.length : Int) - 2 = k ∧ (xs.length : Int) - 2 < (t - a) / b) := by omega
  clear f1
  have hw4 : IntKind.i64.wrap ((k : Int) + 1) = (k : Int) + 1 := IntWalk.i64_in _ (by omega)
  have hw5 : ((k : Int) + 1).toNat = k + 1 := by omega
  have hw6 : 0 ≤ (k : Int) + 1 := by omega
  obtain ⟨x, hxx⟩ : ∃ x, x = t - a - (k : Int) * b := ⟨_, rfl⟩
  rw [← hxx] at f3 f4 f5
  have hj0 : 0 ≤ 180 * x / b := by omega
  have hj1 : 180 * x / b ≤ 180 := by omega
  have hj2 : (180 * x / b).toNat = j := by omega
  have cc : ∀ w, Calls Tryz.prog 73 #[.int .i64 (180 * x / b)] w fun e w' => e = .returned (.int .i64 (cosV j)) ∧ w = w' := fun w => by rw [← hj2]; exact c_Cosine _ w hj0 hj1
  clear f5
  have hxx' := hid hxx
  rcases hkk with ⟨hA, hA'⟩ | ⟨hA, hA'⟩
  all_goals
    have hA2 := hid hA'
    rw [hA] at hA'
    clear hxx
    go_enter Tryz.func34, Tryz.ntmps34
    go_wp2
    go_quiet (fail)
    go_wp2
    rw [← hxx'.out]
    go_quiet (fail)
    go_wp2_with (first | (go_at_call 73; refine (cc _).mono ?_; rintro e w' ⟨rfl, rfl⟩) | (go_at_call 72; refine (c_divRound _ _ hm1 hm2).mono ?_; rintro e w' ⟨rfl, rfl⟩))
    go_ret
    exact ⟨ret_int (by rw [← H.out]; exact IntWalk.wrap64_in _ ⟨by omega, by omega⟩), by (repeat' (first | (with_reducible exact Below.refl _ _) | (with_reducible refine Below.alloc ?_ ?_ _) | (with_reducible refine Below.drew ?_) | (with_reducible refine below_drewN ?_ _) | (with_reducible refine Below.setCell ?_ ?_ _) | (with_reducible refine below_via ‹_› ?_ ?_) | (with_reducible refine below_grow ?_ ?_ _ _) | omega | (simp; done) | (simp; omega)))⟩
set_option maxHeartbeats 400000 in
theorem c_Tide_has (a b : Int) (v : Value) (xs : List Int) (t : Int) (w : World) (h : SlA w 0 1 encI v xs) (hv : tideB a b xs = true) :
    Calls Tryz.prog 33 #[.agg #[.int .i64 a, .int .i64 b, v], .int .i64 t] w fun e w' => e = .returned (.bool (inTide a b xs t)) ∧ Below w.heap.size w w' := by
  obtain ⟨-, e1, e2, e3, e4, e5, e6, e7, e8⟩ := tideB_true hv
  obtain ⟨r, hr⟩ : ∃ r, inB t a (tideEnd a b xs) = r := ⟨_, rfl⟩
  have HR := hid (show inTide a b xs t = r from hr)
  go_enter Tryz.func33, Tryz.ntmps33
  go_wp2
  obtain ⟨w1, hw⟩ : ∃ z, z = w.alloc (Obj.cells #[.int .i64 a, .int .i64 b, v] 26) := ⟨_, rfl⟩
  rw [← hw]
  have r0 := cellr (show w1.cell? ⟨w.heap.size, 0, none⟩ = some (.int .i64 a) by rw [hw]; simp [go_sem])
  have r1 := cellr (show w1.cell? ⟨w.heap.size, 1, none⟩ = some (.int .i64 b) by rw [hw]; simp [go_sem])
  have r2 := cellr (show w1.cell? ⟨w.heap.size, 2, none⟩ = some v by rw [hw]; simp [go_sem])
  have hB1 : Below w.heap.size w w1 := hw ▸ (by (repeat' (first | (with_reducible exact Below.refl _ _) | (with_reducible refine Below.alloc ?_ ?_ _) | (with_reducible refine Below.drew ?_) | (with_reducible refine below_drewN ?_ _) | (with_reducible refine Below.setCell ?_ ?_ _) | (with_reducible refine below_via ‹_› ?_ ?_) | (with_reducible refine below_grow ?_ ?_ _ _) | omega | (simp; done) | (simp; omega))))
  have hz1 := hB1.size
  clear hw
  (refine wp_region_quiet_below (by kernel_rfl) (by kernel_rfl) ?_; (repeat (first | go_big_quiet_step ((first | (go_at_call 35; exact regrown_of (c_Tide_end a b v xs _ (by first | (with_reducible assumption) | (with_reducible apply SlO.at; (with_reducible assumption); (repeat' (first | (with_reducible exact Below.refl _ _) | (with_reducible refine Below.alloc ?_ ?_ _) | (with_reducible refine Below.drew ?_) | (with_reducible refine below_drewN ?_ _) | (with_reducible refine Below.setCell ?_ ?_ _) | (with_reducible refine below_via ‹_› ?_ ?_) | (with_reducible refine below_grow ?_ ?_ _ _) | omega | (simp; done) | (simp; omega))); done) | (with_reducible apply SlA.at; (with_reducible assumption); (repeat' (first | (with_reducible exact Below.refl _ _) | (with_reducible refine Below.alloc ?_ ?_ _) | (with_reducible refine Below.drew ?_) | (with_reducible refine below_drewN ?_ _) | (with_reducible refine Below.setCell ?_ ?_ _) | (with_reducible refine below_via ‹_› ?_ ?_) | (with_reducible refine below_grow ?_ ?_ _ _) | omega | (simp; done) | (simp; omega))); done)) (by omega) (by omega) (by omega) (by omega) (by omega) (by omega))) | (go_at_call 43; first | exact regrown_bool_pure (c_within _ _ _ _) (by assumption) | exact regrown_of_pure (c_within _ _ _ _)))) | quiet_step ((first | (go_at_call 35; exact regrown_of (c_Tide_end a b v xs _ (by first | (with_reducible assumption) | (with_reducible apply SlO.at; (with_reducible assumption); (repeat' (first | (with_reducible exact Below.refl _ _) | (with_reducible refine Below.alloc ?_ ?_ _) | (with_reducible refine Below.drew ?_) | (with_reducible refine below_drewN ?_ _) | (with_reducible refine Below.setCell ?_ ?_ _) | (with_reducible refine below_via ‹_› ?_ ?_) | (with_reducible refine below_grow ?_ ?_ _ _) | omega | (simp; done) | (simp; omega))); done) | (with_reducible apply SlA.at; (with_reducible assumption); (repeat' (first | (with_reducible exact Below.refl _ _) | (with_reducible refine Below.alloc ?_ ?_ _) | (with_reducible refine Below.drew ?_) | (with_reducible refine below_drewN ?_ _) | (with_reducible refine Below.setCell ?_ ?_ _) | (with_reducible refine below_via ‹_› ?_ ?_) | (with_reducible refine below_grow ?_ ?_ _ _) | omega | (simp; done) | (simp; omega))); done)) (by omega) (by omega) (by omega) (by omega) (by omega) (by omega))) | (go_at_call 43; first | exact regrown_bool_pure (c_within _ _ _ _) (by assumption) | exact regrown_of_pure (c_within _ _ _ _)))))); refine wpQuiet_nil ?_; intro w1 hw'; have hb := below_of_regrown hw'; clear hw'; obtain ⟨hc, hf⟩ := bcell hb; have hz := hb.size; (try simp at hz); (try have hz0 : ∀ b, b < w.heap.size → b < w1.heap.size := fun b h => by omega); (try have hz1 : w.heap.size < w1.heap.size := by omega); (try have hz2 : w.heap.size + 1 < w1.heap.size := by omega); (try have hz3 : w.heap.size + 2 < w1.heap.size := by omega))
  go_wp2
  go_ret
  exact ⟨ret_bool HR.out.symm, by (repeat' (first | (with_reducible exact Below.refl _ _) | (with_reducible refine Below.alloc ?_ ?_ _) | (with_reducible refine Below.drew ?_) | (with_reducible refine below_drewN ?_ _) | (with_reducible refine Below.setCell ?_ ?_ _) | (with_reducible refine below_via ‹_› ?_ ?_) | (with_reducible refine below_grow ?_ ?_ _ _) | omega | (simp; done) | (simp; omega)))⟩
def depthB (d : Int) : Bool := inB d 0 10000
def depthV (a b : Int) (xs : List Int) (d t : Int) : Int := max 0 (d + heightV a b xs t)
theorem depthV_bd {a b d t : Int} {xs : List Int} (hv : tideB a b xs = true) (ht : inTide a b xs t = true) (hd : depthB d = true) : 0 ≤ depthV a b xs d t ∧ depthV a b xs d t ≤ 20000 := by
  have := height_bd hv ht; have := inB_true hd; unfold depthV; omega

/-! ### the height and the depth at a time -/
def taV (a b : Int) (xs : List Int) (t : Int) : Int := if tideB a b xs && inTide a b xs t then heightV a b xs t else 0
def taC (a b : Int) (xs : List Int) (t : Int) : Int := if tideB a b xs then (if inTide a b xs t then 0 else 2) else 1
set_option maxHeartbeats 400000 in
theorem c_impl_TideAt (a b : Int) (v : Value) (xs : List Int) (t : Int) (w : World) (h : SlA w 0 1 encI v xs) (hl : xs.length ≤ 1048576) :
    Calls Tryz.prog 7 #[.agg #[.int .i64 a, .int .i64 b, v], .int .i64 t] w fun e w' => e = .returned (.tuple #[.int .i64 (taV a b xs t), .int .i64 (taC a b xs t)]) ∧ Below w.heap.size w w' := by
  cases hq1 : tideB a b xs
  · go_enter Tryz.func7, Tryz.ntmps7
    go_wp2_with (first | (go_at_call 32; refine (c_impl_ValidTide _ _ _ _ _ (by first | (with_reducible assumption) | (with_reducible apply SlO.at; (with_reducible assumption); (repeat' (first | (with_reducible exact Below.refl _ _) | (with_reducible refine Below.alloc ?_ ?_ _) | (with_reducible refine Below.drew ?_) | (with_reducible refine below_drewN ?_ _) | (with_reducible refine Below.setCell ?_ ?_ _) | (with_reducible refine below_via ‹_› ?_ ?_) | (with_reducible refine below_grow ?_ ?_ _ _) | omega | (simp; done) | (simp; omega))); done) | (with_reducible apply SlA.at; (with_reducible assumption); (repeat' (first | (with_reducible exact Below.refl _ _) | (with_reducible refine Below.alloc ?_ ?_ _) | (with_reducible refine Below.drew ?_) | (with_reducible refine below_drewN ?_ _) | (with_reducible refine Below.setCell ?_ ?_ _) | (with_reducible refine below_via ‹_› ?_ ?_) | (with_reducible refine below_grow ?_ ?_ _ _) | omega | (simp; done) | (simp; omega))); done)) (by omega)).mono ?_; rintro e w1 ⟨rfl, hb⟩; obtain ⟨hc, hf⟩ := bcell hb; have hz := hb.size; (try simp at hz); (try have hz0 : ∀ b, b < w.heap.size → b < w1.heap.size := fun b h => by omega); (try have hz1 : w.heap.size < w1.heap.size := by omega); (try have hz2 : w.heap.size + 1 < w1.heap.size := by omega); (try have hz3 : w.heap.size + 2 < w1.heap.size := by omega)) | (go_at_call 33; refine (c_Tide_has a b _ xs _ _ (by first | (with_reducible assumption) | (with_reducible apply SlO.at; (with_reducible assumption); (repeat' (first | (with_reducible exact Below.refl _ _) | (with_reducible refine Below.alloc ?_ ?_ _) | (with_reducible refine Below.drew ?_) | (with_reducible refine below_drewN ?_ _) | (with_reducible refine Below.setCell ?_ ?_ _) | (with_reducible refine below_via ‹_› ?_ ?_) | (with_reducible refine below_grow ?_ ?_ _ _) | omega | (simp; done) | (simp; omega))); done) | (with_reducible apply SlA.at; (with_reducible assumption); (repeat' (first | (with_reducible exact Below.refl _ _) | (with_reducible refine Below.alloc ?_ ?_ _) | (with_reducible refine Below.drew ?_) | (with_reducible refine below_drewN ?_ _) | (with_reducible refine Below.setCell ?_ ?_ _) | (with_reducible refine below_via ‹_› ?_ ?_) | (with_reducible refine below_grow ?_ ?_ _ _) | omega | (simp; done) | (simp; omega))); done)) (by assumption)).mono ?_; rintro e w1 ⟨rfl, hb⟩; obtain ⟨hc, hf⟩ := bcell hb; have hz := hb.size; (try simp at hz); (try have hz0 : ∀ b, b < w.heap.size → b < w1.heap.size := fun b h => by omega); (try have hz1 : w.heap.size < w1.heap.size := by omega); (try have hz2 : w.heap.size + 1 < w1.heap.size := by omega); (try have hz3 : w.heap.size + 2 < w1.heap.size := by omega)) | (go_at_call 34; refine (c_Tide_height a b _ xs _ _ (by first | (with_reducible assumption) | (with_reducible apply SlO.at; (with_reducible assumption); (repeat' (first | (with_reducible exact Below.refl _ _) | (with_reducible refine Below.alloc ?_ ?_ _) | (with_reducible refine Below.drew ?_) | (with_reducible refine below_drewN ?_ _) | (with_reducible refine Below.setCell ?_ ?_ _) | (with_reducible refine below_via ‹_› ?_ ?_) | (with_reducible refine below_grow ?_ ?_ _ _) | omega | (simp; done) | (simp; omega))); done) | (with_reducible apply SlA.at; (with_reducible assumption); (repeat' (first | (with_reducible exact Below.refl _ _) | (with_reducible refine Below.alloc ?_ ?_ _) | (with_reducible refine Below.drew ?_) | (with_reducible refine below_drewN ?_ _) | (with_reducible refine Below.setCell ?_ ?_ _) | (with_reducible refine below_via ‹_› ?_ ?_) | (with_reducible refine below_grow ?_ ?_ _ _) | omega | (simp; done) | (simp; omega))); done)) (by assumption) (by assumption)).mono ?_; rintro e w1 ⟨rfl, hb⟩; obtain ⟨hc, hf⟩ := bcell hb; have hz := hb.size; (try simp at hz); (try have hz0 : ∀ b, b < w.heap.size → b < w1.heap.size := fun b h => by omega); (try have hz1 : w.heap.size < w1.heap.size := by omega); (try have hz2 : w.heap.size + 1 < w1.heap.size := by omega); (try have hz3 : w.heap.size + 2 < w1.heap.size := by omega)))
    go_ret2
    exact ⟨by simp [taV, taC, *], by (repeat' (first | (with_reducible exact Below.refl _ _) | (with_reducible refine Below.alloc ?_ ?_ _) | (with_reducible refine Below.drew ?_) | (with_reducible refine below_drewN ?_ _) | (with_reducible refine Below.setCell ?_ ?_ _) | (with_reducible refine below_via ‹_› ?_ ?_) | (with_reducible refine below_grow ?_ ?_ _ _) | omega | (simp; done) | (simp; omega)))⟩
  cases hq2 : inTide a b xs t
  · go_enter Tryz.func7, Tryz.ntmps7
    go_wp2_with (first | (go_at_call 32; refine (c_impl_ValidTide _ _ _ _ _ (by first | (with_reducible assumption) | (with_reducible apply SlO.at; (with_reducible assumption); (repeat' (first | (with_reducible exact Below.refl _ _) | (with_reducible refine Below.alloc ?_ ?_ _) | (with_reducible refine Below.drew ?_) | (with_reducible refine below_drewN ?_ _) | (with_reducible refine Below.setCell ?_ ?_ _) | (with_reducible refine below_via ‹_› ?_ ?_) | (with_reducible refine below_grow ?_ ?_ _ _) | omega | (simp; done) | (simp; omega))); done) | (with_reducible apply SlA.at; (with_reducible assumption); (repeat' (first | (with_reducible exact Below.refl _ _) | (with_reducible refine Below.alloc ?_ ?_ _) | (with_reducible refine Below.drew ?_) | (with_reducible refine below_drewN ?_ _) | (with_reducible refine Below.setCell ?_ ?_ _) | (with_reducible refine below_via ‹_› ?_ ?_) | (with_reducible refine below_grow ?_ ?_ _ _) | omega | (simp; done) | (simp; omega))); done)) (by omega)).mono ?_; rintro e w1 ⟨rfl, hb⟩; obtain ⟨hc, hf⟩ := bcell hb; have hz := hb.size; (try simp at hz); (try have hz0 : ∀ b, b < w.heap.size → b < w1.heap.size := fun b h => by omega); (try have hz1 : w.heap.size < w1.heap.size := by omega); (try have hz2 : w.heap.size + 1 < w1.heap.size := by omega); (try have hz3 : w.heap.size + 2 < w1.heap.size := by omega)) | (go_at_call 33; refine (c_Tide_has a b _ xs _ _ (by first | (with_reducible assumption) | (with_reducible apply SlO.at; (with_reducible assumption); (repeat' (first | (with_reducible exact Below.refl _ _) | (with_reducible refine Below.alloc ?_ ?_ _) | (with_reducible refine Below.drew ?_) | (with_reducible refine below_drewN ?_ _) | (with_reducible refine Below.setCell ?_ ?_ _) | (with_reducible refine below_via ‹_› ?_ ?_) | (with_reducible refine below_grow ?_ ?_ _ _) | omega | (simp; done) | (simp; omega))); done) | (with_reducible apply SlA.at; (with_reducible assumption); (repeat' (first | (with_reducible exact Below.refl _ _) | (with_reducible refine Below.alloc ?_ ?_ _) | (with_reducible refine Below.drew ?_) | (with_reducible refine below_drewN ?_ _) | (with_reducible refine Below.setCell ?_ ?_ _) | (with_reducible refine below_via ‹_› ?_ ?_) | (with_reducible refine below_grow ?_ ?_ _ _) | omega | (simp; done) | (simp; omega))); done)) (by assumption)).mono ?_; rintro e w1 ⟨rfl, hb⟩; obtain ⟨hc, hf⟩ := bcell hb; have hz := hb.size; (try simp at hz); (try have hz0 : ∀ b, b < w.heap.size → b < w1.heap.size := fun b h => by omega); (try have hz1 : w.heap.size < w1.heap.size := by omega); (try have hz2 : w.heap.size + 1 < w1.heap.size := by omega); (try have hz3 : w.heap.size + 2 < w1.heap.size := by omega)) | (go_at_call 34; refine (c_Tide_height a b _ xs _ _ (by first | (with_reducible assumption) | (with_reducible apply SlO.at; (with_reducible assumption); (repeat' (first | (with_reducible exact Below.refl _ _) | (with_reducible refine Below.alloc ?_ ?_ _) | (with_reducible refine Below.drew ?_) | (with_reducible refine below_drewN ?_ _) | (with_reducible refine Below.setCell ?_ ?_ _) | (with_reducible refine below_via ‹_› ?_ ?_) | (with_reducible refine below_grow ?_ ?_ _ _) | omega | (simp; done) | (simp; omega))); done) | (with_reducible apply SlA.at; (with_reducible assumption); (repeat' (first | (with_reducible exact Below.refl _ _) | (with_reducible refine Below.alloc ?_ ?_ _) | (with_reducible refine Below.drew ?_) | (with_reducible refine below_drewN ?_ _) | (with_reducible refine Below.setCell ?_ ?_ _) | (with_reducible refine below_via ‹_› ?_ ?_) | (with_reducible refine below_grow ?_ ?_ _ _) | omega | (simp; done) | (simp; omega))); done)) (by assumption) (by assumption)).mono ?_; rintro e w1 ⟨rfl, hb⟩; obtain ⟨hc, hf⟩ := bcell hb; have hz := hb.size; (try simp at hz); (try have hz0 : ∀ b, b < w.heap.size → b < w1.heap.size := fun b h => by omega); (try have hz1 : w.heap.size < w1.heap.size := by omega); (try have hz2 : w.heap.size + 1 < w1.heap.size := by omega); (try have hz3 : w.heap.size + 2 < w1.heap.size := by omega)))
    go_ret2
    exact ⟨by simp [taV, taC, *], by (repeat' (first | (with_reducible exact Below.refl _ _) | (with_reducible refine Below.alloc ?_ ?_ _) | (with_reducible refine Below.drew ?_) | (with_reducible refine below_drewN ?_ _) | (with_reducible refine Below.setCell ?_ ?_ _) | (with_reducible refine below_via ‹_› ?_ ?_) | (with_reducible refine below_grow ?_ ?_ _ _) | omega | (simp; done) | (simp; omega)))⟩
  go_enter Tryz.func7, Tryz.ntmps7
  go_wp2_with (first | (go_at_call 32; refine (c_impl_ValidTide _ _ _ _ _ (by first | (with_reducible assumption) | (with_reducible apply SlO.at; (with_reducible assumption); (repeat' (first | (with_reducible exact Below.refl _ _) | (with_reducible refine Below.alloc ?_ ?_ _) | (with_reducible refine Below.drew ?_) | (with_reducible refine below_drewN ?_ _) | (with_reducible refine Below.setCell ?_ ?_ _) | (with_reducible refine below_via ‹_› ?_ ?_) | (with_reducible refine below_grow ?_ ?_ _ _) | omega | (simp; done) | (simp; omega))); done) | (with_reducible apply SlA.at; (with_reducible assumption); (repeat' (first | (with_reducible exact Below.refl _ _) | (with_reducible refine Below.alloc ?_ ?_ _) | (with_reducible refine Below.drew ?_) | (with_reducible refine below_drewN ?_ _) | (with_reducible refine Below.setCell ?_ ?_ _) | (with_reducible refine below_via ‹_› ?_ ?_) | (with_reducible refine below_grow ?_ ?_ _ _) | omega | (simp; done) | (simp; omega))); done)) (by omega)).mono ?_; rintro e w1 ⟨rfl, hb⟩; obtain ⟨hc, hf⟩ := bcell hb; have hz := hb.size; (try simp at hz); (try have hz0 : ∀ b, b < w.heap.size → b < w1.heap.size := fun b h => by omega); (try have hz1 : w.heap.size < w1.heap.size := by omega); (try have hz2 : w.heap.size + 1 < w1.heap.size := by omega); (try have hz3 : w.heap.size + 2 < w1.heap.size := by omega)) | (go_at_call 33; refine (c_Tide_has a b _ xs _ _ (by first | (with_reducible assumption) | (with_reducible apply SlO.at; (with_reducible assumption); (repeat' (first | (with_reducible exact Below.refl _ _) | (with_reducible refine Below.alloc ?_ ?_ _) | (with_reducible refine Below.drew ?_) | (with_reducible refine below_drewN ?_ _) | (with_reducible refine Below.setCell ?_ ?_ _) | (with_reducible refine below_via ‹_› ?_ ?_) | (with_reducible refine below_grow ?_ ?_ _ _) | omega | (simp; done) | (simp; omega))); done) | (with_reducible apply SlA.at; (with_reducible assumption); (repeat' (first | (with_reducible exact Below.refl _ _) | (with_reducible refine Below.alloc ?_ ?_ _) | (with_reducible refine Below.drew ?_) | (with_reducible refine below_drewN ?_ _) | (with_reducible refine Below.setCell ?_ ?_ _) | (with_reducible refine below_via ‹_› ?_ ?_) | (with_reducible refine below_grow ?_ ?_ _ _) | omega | (simp; done) | (simp; omega))); done)) (by assumption)).mono ?_; rintro e w1 ⟨rfl, hb⟩; obtain ⟨hc, hf⟩ := bcell hb; have hz := hb.size; (try simp at hz); (try have hz0 : ∀ b, b < w.heap.size → b < w1.heap.size := fun b h => by omega); (try have hz1 : w.heap.size < w1.heap.size := by omega); (try have hz2 : w.heap.size + 1 < w1.heap.size := by omega); (try have hz3 : w.heap.size + 2 < w1.heap.size := by omega)) | (go_at_call 34; refine (c_Tide_height a b _ xs _ _ (by first | (with_reducible assumption) | (with_reducible apply SlO.at; (with_reducible assumption); (repeat' (first | (with_reducible exact Below.refl _ _) | (with_reducible refine Below.alloc ?_ ?_ _) | (with_reducible refine Below.drew ?_) | (with_reducible refine below_drewN ?_ _) | (with_reducible refine Below.setCell ?_ ?_ _) | (with_reducible refine below_via ‹_› ?_ ?_) | (with_reducible refine below_grow ?_ ?_ _ _) | omega | (simp; done) | (simp; omega))); done) | (with_reducible apply SlA.at; (with_reducible assumption); (repeat' (first | (with_reducible exact Below.refl _ _) | (with_reducible refine Below.alloc ?_ ?_ _) | (with_reducible refine Below.drew ?_) | (with_reducible refine below_drewN ?_ _) | (with_reducible refine Below.setCell ?_ ?_ _) | (with_reducible refine below_via ‹_› ?_ ?_) | (with_reducible refine below_grow ?_ ?_ _ _) | omega | (simp; done) | (simp; omega))); done)) (by assumption) (by assumption)).mono ?_; rintro e w1 ⟨rfl, hb⟩; obtain ⟨hc, hf⟩ := bcell hb; have hz := hb.size; (try simp at hz); (try have hz0 : ∀ b, b < w.heap.size → b < w1.heap.size := fun b h => by omega); (try have hz1 : w.heap.size < w1.heap.size := by omega); (try have hz2 : w.heap.size + 1 < w1.heap.size := by omega); (try have hz3 : w.heap.size + 2 < w1.heap.size := by omega)))
  go_ret2
  exact ⟨by simp [taV, taC, *], by (repeat' (first | (with_reducible exact Below.refl _ _) | (with_reducible refine Below.alloc ?_ ?_ _) | (with_reducible refine Below.drew ?_) | (with_reducible refine below_drewN ?_ _) | (with_reducible refine Below.setCell ?_ ?_ _) | (with_reducible refine below_via ‹_› ?_ ?_) | (with_reducible refine below_grow ?_ ?_ _ _) | omega | (simp; done) | (simp; omega)))⟩
def daV (a b : Int) (xs : List Int) (d t : Int) : Int := if tideB a b xs && (depthB d && inTide a b xs t) then depthV a b xs d t else 0
def daC (a b : Int) (xs : List Int) (d t : Int) : Int := if tideB a b xs then (if depthB d && inTide a b xs t then 0 else 2) else 1
end Go.Proofs.YtabbhlehbhadiaaGreatDoor
