/- What FnTides asks, of lists and numbers. Plain. -/
import Derived.Test.YtabbhlehbhadiaaGreatDoorTide3
import Derived.Test.YtabbhlehbhadiaaGreatDoorHigh
import Derived.Test.YtabbhlehbhadiaaGreatDoorShift
import Derived.Test.YtabbhlehbhadiaaGreatDoorTideRd
namespace Go.Proofs.YtabbhlehbhadiaaGreatDoor
open Go.RowKit Go.Sort
set_option linter.unusedVariables false
set_option maxRecDepth 100000

theorem divR_btw {x c : Int} (h0 : 0 ≤ c) (h1 : c ≤ 2000000) : (0 ≤ x → 0 ≤ divR (x * c) 2000000 ∧ divR (x * c) 2000000 ≤ x) ∧ (x ≤ 0 → x ≤ divR (x * c) 2000000 ∧ divR (x * c) 2000000 ≤ 0) := by
  constructor
  · intro hx
    have q0 : 0 ≤ x * c := Int.mul_nonneg hx h0
    have q1 : x * c ≤ x * 2000000 := Int.mul_le_mul_of_nonneg_left h1 hx
    rw [divR_hi q0]
    generalize x * c = q at *
    omega
  · intro hx
    have q0 : x * c ≤ 0 := by have := Int.mul_nonneg (show 0 ≤ -x by omega) h0; rw [Int.neg_mul] at this; omega
    have q1 : x * 2000000 ≤ x * c := by have := Int.mul_le_mul_of_nonneg_left h1 (show 0 ≤ -x by omega); rw [Int.neg_mul, Int.neg_mul] at this; omega
    generalize x * c = q at *
    unfold divR
    split <;> omega
theorem seg_btw (y z : Int) (j : Nat) : min y z ≤ y + divR ((z - y) * (1000000 - cosV j)) 2000000 ∧ y + divR ((z - y) * (1000000 - cosV j)) 2000000 ≤ max y z := by
  have hc := cosV_bd j
  obtain ⟨h1, h2⟩ := divR_btw (x := z - y) (c := 1000000 - cosV j) (by omega) (by omega)
  generalize divR ((z - y) * (1000000 - cosV j)) 2000000 = q at *
  by_cases h : 0 ≤ z - y
  · have := h1 h; omega
  · have := h2 (by omega); omega
theorem divR_zero : divR 0 2000000 = 0 := by decide
theorem divR_full (x : Int) : divR (x * 2000000) 2000000 = x := by unfold divR; split <;> omega
theorem cos_0 : cosV 0 = 1000000 := by decide
theorem cos_180 : cosV 180 = -1000000 := by decide
/-- the water is at its heights at the turns -/
theorem height_turn {a b : Int} {xs : List Int} (hv : tideB a b xs = true) {k : Nat} (hk : k < xs.length) : heightV a b xs (a + k * b) = xs.getD k 0 := by
  obtain ⟨-, e1, e2, e3, e4, e5, e6, e7, e8⟩ := tideB_true hv
  have hq : (a + k * b - a) / b = k := by
    rw [show a + k * b - a = k * b by omega]; exact Int.mul_ediv_cancel _ (by omega)
  by_cases hc : k + 2 ≤ xs.length
  · have hK : htK a b xs (a + k * b) = k := by unfold htK; rw [hq]; omega
    have hJ : htJ a b xs (a + k * b) = 0 := by
      unfold htJ; rw [hK, show a + k * b - a - k * b = 0 by omega]; simp
    unfold heightV
    rw [hK, hJ, cos_0, show (1000000 : Int) - 1000000 = 0 by omega, Int.mul_zero, divR_zero, Int.add_zero]
  · have hK : htK a b xs (a + k * b) = k - 1 := by unfold htK; rw [hq]; omega
    have hJ : htJ a b xs (a + k * b) = 180 := by
      unfold htJ
      have hkk : ((k - 1 : Nat) : Int) = (k : Int) - 1 := by omega
      rw [hK, hkk, show a + k * b - a - (k - 1) * b = b by rw [Int.sub_mul]; omega, Int.mul_ediv_cancel _ (by omega)]; rfl
    unfold heightV
    rw [hK, hJ, cos_180, show (1000000 : Int) - -1000000 = 2000000 by omega, divR_full, show k - 1 + 1 = k by omega]
    omega
theorem hiL_out {xs : List Int} {k : Nat} (h : hiL xs k = true) (h0 : 1 ≤ k) : xs.getD (k - 1) 0 < xs.getD k 0 := by
  simp only [hiL, Bool.or_eq_true, beq_iff_eq, decide_eq_true_eq] at h
  rcases h with h | h
  · omega
  · exact h
theorem hiR_out {xs : List Int} {k : Nat} (h : hiR xs k = true) (h0 : k + 1 < xs.length) : xs.getD (k + 1) 0 < xs.getD k 0 := by
  simp only [hiR, Bool.or_eq_true, beq_iff_eq, decide_eq_true_eq] at h
  rcases h with h | h
  · omega
  · exact h
/-- no time within one turn of a high water is higher -/
theorem high_top {a b : Int} {xs : List Int} (hv : tideB a b xs = true) {k : Nat} (hk : k < xs.length) (hL : hiL xs k = true) (hR : hiR xs k = true) {t : Int} (ht : inTide a b xs t = true) (h0 : a + k * b - b ≤ t) (h1 : t ≤ a + k * b + b) :
    heightV a b xs t ≤ xs.getD k 0 := by
  obtain ⟨-, e1, e2, e3, e4, e5, e6, e7, e8⟩ := tideB_true hv
  obtain ⟨t0, t1⟩ := inB_true ht
  unfold tideEnd at t1
  have hd := Int.mul_ediv_add_emod (t - a) b
  have hm0 := Int.emod_nonneg (t - a) (show b ≠ 0 by omega)
  have hm1 := Int.emod_lt_of_pos (t - a) (show 0 < b by omega)
  have hq0 : 0 ≤ (t - a) / b := Int.ediv_nonneg (by omega) (by omega)
  obtain ⟨q, hq⟩ : ∃ q : Nat, (t - a) / b = q := ⟨((t - a) / b).toNat, by omega⟩
  have hKq : htK a b xs t = min q (xs.length - 2) := by unfold htK; rw [hq]; omega
  rw [hq] at hd
  have l1 : (k : Int) - 1 < q + 1 := by
    refine Int.lt_of_mul_lt_mul_right (a := b) ?_ (by omega)
    rw [Int.sub_mul, Int.add_mul, Int.mul_comm (q : Int) b]; omega
  have l2 : (q : Int) ≤ k + 1 := by
    refine Int.le_of_mul_le_mul_right (a := b) ?_ (show 0 < b by omega)
    rw [Int.add_mul, Int.mul_comm (q : Int) b]; omega
  have hs := seg_btw (xs.getD (htK a b xs t) 0) (xs.getD (htK a b xs t + 1) 0) (htJ a b xs t)
  have hh : heightV a b xs t ≤ max (xs.getD (htK a b xs t) 0) (xs.getD (htK a b xs t + 1) 0) := hs.2
  by_cases c1 : q = k + 1
  · have e : t = a + (k + 1 : Nat) * b := by
      rw [c1] at hd
      have := Int.mul_comm b ((k + 1 : Nat) : Int)
      have h2 : ((k + 1 : Nat) : Int) * b = k * b + b := by rw [Int.natCast_add, Int.add_mul]; omega
      omega
    have hkn : k + 1 < xs.length := by
      have : ((k + 1 : Nat) : Int) ≤ (xs.length : Int) - 1 := by
        refine Int.le_of_mul_le_mul_right (a := b) ?_ (show 0 < b by omega)
        rw [Int.mul_comm ((xs.length : Int) - 1) b]; omega
      omega
    rw [e, height_turn hv hkn]
    have := hiR_out hR hkn
    omega
  · by_cases c2 : q = k
    · by_cases c3 : k + 2 ≤ xs.length
      · have hK : htK a b xs t = k := by rw [hKq]; omega
        rw [hK] at hh
        have := hiR_out hR (by omega)
        omega
      · have hK : htK a b xs t = k - 1 := by rw [hKq]; omega
        rw [hK, show k - 1 + 1 = k by omega] at hh
        have := hiL_out hL (by omega)
        omega
    · have hK : htK a b xs t = k - 1 := by rw [hKq]; omega
      rw [hK, show k - 1 + 1 = k by omega] at hh
      have := hiL_out hL (by omega)
      omega
theorem highsU_mem {a b : Int} {xs : List Int} : ∀ (n : Nat) {x : Int}, x ∈ highsU a b xs n → ∃ k : Nat, k < n ∧ x = a + k * b ∧ hiL xs k = true ∧ hiR xs k = true
  | 0, x, h => by simp [highsU] at h
  | n + 1, x, h => by
    rw [highsU] at h
    rcases List.mem_append.1 h with h | h
    · obtain ⟨k, h1, h2⟩ := highsU_mem n h
      exact ⟨k, by omega, h2⟩
    · split at h
      · rename_i hc
        simp only [Bool.and_eq_true] at hc
        rw [List.mem_singleton] at h
        exact ⟨n, by omega, by rw [h, Int.mul_comm], hc⟩
      · cases h
theorem lowF_ok (f : Int → Int) (t : Int) : ∀ n : Nat, (lowF f t n).2 = f (lowF f t n).1 ∧ t ≤ (lowF f t n).1 ∧ (lowF f t n).1 ≤ t + n ∧ ∀ x, t ≤ x → x ≤ t + n → (lowF f t n).2 ≤ f x
  | 0 => ⟨rfl, by simp [lowF], by simp [lowF], fun x h1 h2 => by
      have : x = t := by omega
      subst this; simp [lowF]⟩
  | n + 1 => by
    obtain ⟨h1, h2, h3, h4⟩ := lowF_ok f t n
    rw [lowF]
    split
    · rename_i hc
      refine ⟨rfl, by simp only []; omega, by simp only []; omega, fun x hx0 hx1 => ?_⟩
      by_cases e : x = t + (n + 1 : Nat)
      · rw [e]; exact Int.le_refl _
      · have := h4 x hx0 (by omega); simp only []; omega
    · rename_i hc
      refine ⟨h1, h2, by omega, fun x hx0 hx1 => ?_⟩
      by_cases e : x = t + (n + 1 : Nat)
      · rw [e]; omega
      · exact h4 x hx0 (by omega)
theorem end_in {a b : Int} {xs : List Int} (hv : tideB a b xs = true) : a ≤ tideEnd a b xs := by
  obtain ⟨-, e1, e2, e3, e4, e5, e6, e7, e8⟩ := tideB_true hv
  unfold tideEnd
  have := Int.mul_nonneg (show 0 ≤ b by omega) (show 0 ≤ (xs.length : Int) - 1 by omega)
  omega
theorem turn_in {a b : Int} {xs : List Int} (hv : tideB a b xs = true) {k : Nat} (hk : k < xs.length) : inTide a b xs (a + k * b) = true := by
  obtain ⟨-, e1, e2, e3, e4, e5, e6, e7, e8⟩ := tideB_true hv
  refine inB_of ?_ ?_
  · have := Int.mul_nonneg (show 0 ≤ (k : Int) by omega) (show 0 ≤ b by omega); omega
  · unfold tideEnd
    rw [Int.mul_comm b]
    have := Int.mul_le_mul_of_nonneg_right (show (k : Int) ≤ (xs.length : Int) - 1 by omega) (show 0 ≤ b by omega)
    omega
theorem taC_in {a b t : Int} {xs : List Int} (hv : tideB a b xs = true) (h : inTide a b xs t = true) : taC a b xs t = 0 ∧ taV a b xs t = heightV a b xs t := by simp [taC, taV, hv, h]
theorem taC_zero {a b t : Int} {xs : List Int} (h : taC a b xs t = 0) : tideB a b xs = true ∧ inTide a b xs t = true := by
  unfold taC at h
  split at h
  · rename_i hv
    split at h
    · rename_i h2; exact ⟨hv, h2⟩
    · omega
  · omega
/-! ### the parts of the statement -/
theorem tides_bad {a b t : Int} {xs : List Int} (hv : tideB a b xs = false) : taC a b xs t = 1 ∧ taV a b xs t = 0 := by simp [taC, taV, hv]
theorem tides_turn {a b : Int} {xs : List Int} (hv : tideB a b xs = true) {k : Nat} (hk : k < xs.length) : taC a b xs (a + k * b) = 0 ∧ taV a b xs (a + k * b) = xs[k] := by
  obtain ⟨h1, h2⟩ := taC_in hv (turn_in hv hk)
  exact ⟨h1, by rw [h2, height_turn hv hk, ht_getD hk]⟩
theorem tides_span {a b t : Int} {xs : List Int} (hv : tideB a b xs = true) : (taC a b xs t == 0) = (decide (a ≤ t) && decide (t ≤ tideEnd a b xs)) := by
  unfold taC
  rw [if_pos hv]
  have : inTide a b xs t = (decide (a ≤ t) && decide (t ≤ tideEnd a b xs)) := by unfold inTide inB; simp only [Bool.decide_and]
  rw [← this]
  cases inTide a b xs t <;> rfl
theorem tides_high {a b : Int} {xs : List Int} (hv : tideB a b xs = true) {x : Int} (hx : x ∈ highR a b xs) : taC a b xs x = 0 ∧ ∀ t, taC a b xs t = 0 → x - b ≤ t → t ≤ x + b → taV a b xs t ≤ taV a b xs x := by
  unfold highR at hx
  rw [if_pos hv] at hx
  obtain ⟨k, hk, rfl, hL, hR⟩ := highsU_mem _ hx
  obtain ⟨h1, h2⟩ := tides_turn hv hk
  refine ⟨h1, fun t ht h3 h4 => ?_⟩
  have hin := (taC_zero ht).2
  have := high_top hv hk hL hR hin h3 h4
  rw [h2, (taC_in hv hin).2]
  rw [ht_getD hk] at this
  exact this
theorem highs_near {a b : Int} {xs : List Int} (hv : tideB a b xs = true) {x : Int} (hx : x ∈ highR a b xs) : 0 ≤ x ∧ x ≤ 143999999 := by
  unfold highR at hx
  rw [if_pos hv] at hx
  obtain ⟨k, hk, rfl, hL, hR⟩ := highsU_mem _ hx
  have h := inB_true (turn_in hv hk)
  obtain ⟨-, e1, e2, e3, e4, e5, e6, e7, e8⟩ := tideB_true hv
  omega
theorem tides_low {a b t : Int} {xs : List Int} (h : taC a b xs t = 0) : lwC a b xs a (tideEnd a b xs) = 0 ∧ taC a b xs (lwA a b xs a (tideEnd a b xs)) = 0 ∧ taV a b xs (lwA a b xs a (tideEnd a b xs)) = lwL a b xs a (tideEnd a b xs) ∧ lwL a b xs a (tideEnd a b xs) ≤ taV a b xs t := by
  obtain ⟨hv, hin⟩ := taC_zero h
  have he := end_in hv
  have hG : lwG a b xs a (tideEnd a b xs) = true := by
    simp only [lwG, Bool.and_eq_true, decide_eq_true_eq]
    exact ⟨inTide_of (Int.le_refl _) he, inTide_of he (Int.le_refl _), he⟩
  have hP : lwP a b xs a (tideEnd a b xs) = lowF (heightV a b xs) a (tideEnd a b xs - a).toNat := by rw [lwP, hv, hG]; rfl
  obtain ⟨h1, h2, h3, h4⟩ := lowF_ok (heightV a b xs) a (tideEnd a b xs - a).toNat
  have hn : a + ((tideEnd a b xs - a).toNat : Int) = tideEnd a b xs := by omega
  rw [hn] at h3 h4
  obtain ⟨k1, k2⟩ := taC_in hv (inTide_of h2 h3)
  refine ⟨lwC_t hv hG, ?_, ?_, ?_⟩
  · rw [lwA, hP]; exact k1
  · rw [lwA, lwL, hP, k2, h1]
  · rw [lwL, hP, (taC_in hv hin).2]
    obtain ⟨i1, i2⟩ := inB_true hin
    exact h4 t i1 i2
theorem tides_shift {a b t d : Int} {xs : List Int} (h : taC a b xs t = 0) (d0 : 0 ≤ d) (d1 : d < 1000) : (shC a b xs d = 0 ∧ shA a b xs d = a + d ∧ shB a b xs d = b ∧ shX a b xs d = xs ∧ taC (a + d) b xs (t + d) = 0 ∧ taV (a + d) b xs (t + d) = taV a b xs t) ∨ shC a b xs d = 2 := by
  obtain ⟨hv, hin⟩ := taC_zero h
  have hb : byB d = true := inB_of (by omega) (by omega)
  cases h2 : tideB (a + d) b xs with
  | false => right; simp [shC, hv, hb, h2]
  | true =>
    left
    have hG : shG a b xs d = true := by simp [shG, hv, hb, h2]
    obtain ⟨i1, i2⟩ := inB_true hin
    have hin2 : inTide (a + d) b xs (t + d) = true := inB_of (by omega) (by unfold tideEnd at i2 ⊢; omega)
    have hK : htK (a + d) b xs (t + d) = htK a b xs t := by unfold htK; rw [show t + d - (a + d) = t - a by omega]
    have hJ : htJ (a + d) b xs (t + d) = htJ a b xs t := by unfold htJ; rw [hK, show t + d - (a + d) = t - a by omega]
    obtain ⟨k1, k2⟩ := taC_in h2 hin2
    refine ⟨by simp [shC, hv, hb, h2], by simp [shA, hG], by simp [shB, hG], by simp [shX, hG], k1, ?_⟩
    rw [k2, (taC_in hv hin).2]
    unfold heightV
    rw [hK, hJ]
/-- a tide is restored from its text -/
theorem tides_text {a b : Int} {xs : List Int} (hv : tideB a b xs = true) : tideRd (tideR a b xs) = some ⟨a, b, xs⟩ := by
  refine (tideRd_iff _ _).2 ⟨hv, ?_⟩
  rw [tideR, if_pos hv, bs_list]; rfl
end Go.Proofs.YtabbhlehbhadiaaGreatDoor
