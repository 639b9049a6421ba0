/- Sectors: one sector on both sides; what a valid list is, in two forms that agree. -/
import Derived.Test.YtabbhlehbhadiaaGreatDoorTSector
import Derived.Test.YtabbhlehbhadiaaGreatDoorSl
import Derived.Test.YtabbhlehbhadiaaGreatDoorShelf
import Derived.Test.YtabbhlehbhadiaaGreatDoorShelfS
namespace Go.Proofs.YtabbhlehbhadiaaGreatDoor
open Go.RowKit Go.Sort
set_option maxRecDepth 100000

def bearB (n : Int) : Bool := inB n 0 359
def colB (c : ByteArray) : Bool := (c.toList == [87]) || ((c.toList == [82]) || ((c.toList == [71]) || (c.toList == [89])))
def sectB (f t : Int) (c : ByteArray) : Bool := bearB f && (bearB t && colB c)
def sectD (d : SectorD) : Bool := sectB d.fFrom d.fTo d.fColor
def arcV (f t : Int) : Int := (t - f - 1) % 360 + 1
def hasV (f t n : Int) : Bool := decide ((wrap64 (n - f)) % 360 < arcV f t)
theorem arcV_bd (f t : Int) : 1 ≤ arcV f t ∧ arcV f t ≤ 360 := by unfold arcV; omega
theorem colB_one {c : ByteArray} (h : colB c = true) : c.size = 1 := by
  rw [← str_len]
  simp only [colB, Bool.or_eq_true, beq_iff_eq] at h
  rcases h with h | h | h | h <;> rw [h] <;> rfl
theorem colB_idx (x : UInt8) : decide (0 ≤ Lib.indexByte [87, 82, 71, 89] x) = colB ⟨#[x]⟩ := by
  have e : (ByteArray.mk #[x]).toList = [x] := by rw [ByteArray.toList_eq]
  unfold colB
  rw [e]
  by_cases h1 : x = 87
  · subst h1; decide
  by_cases h2 : x = 82
  · subst h2; decide
  by_cases h3 : x = 71
  · subst h3; decide
  by_cases h4 : x = 89
  · subst h4; decide
  have hF : Lib.indexByte [87, 82, 71, 89] x = -1 := by
    simp [Lib.indexByte, Ne.symm h1, Ne.symm h2, Ne.symm h3, Ne.symm h4]
  rw [hF]
  simp [h1, h2, h3, h4]
theorem c_isColor (c : ByteArray) (w : World) (h : c.size ≤ maxLen) :
    Calls Tryz.prog 51 #[.string c] w fun e w' => e = .returned (.bool (colB c)) ∧ w = w' := by
  unfold maxLen at h
  by_cases h1 : c.size = 1
  · obtain ⟨x, rfl⟩ : ∃ x, c = ⟨#[x]⟩ := by
      obtain ⟨⟨l⟩⟩ := c
      match l, h1 with
      | [x], _ => exact ⟨x, rfl⟩
    have hc := colB_idx x
    go_enter Tryz.func51, Tryz.ntmps51
    go_wp2_with (go_at_call 81; refine (Tryz.strings_Contains_one _ _ _).mono ?_; rintro e w' ⟨rfl, rfl⟩)
    go_ret
    exact ⟨ret_bool (by first | exact hc | rfl), rfl⟩
  · have hz : ((c.size : Int) == 1) = false := by simp; omega
    have hF : colB c = false := by
      cases hh : colB c
      · rfl
      · exact absurd (colB_one hh) h1
    have HF := hid hF
    clear hF h1
    go_enter Tryz.func51, Tryz.ntmps51
    go_wp2
    go_ret
    exact ⟨ret_bool HF.out.symm, rfl⟩
theorem c_l08Color (c : ByteArray) (w : World) :
    Calls Tryz.prog 99 #[.string c] w fun e w' => e = .returned (.bool (colB c)) ∧ w = w' := by
  cases hq1 : (c.toList == [87])
  · go_enter Tryz.func99, Tryz.ntmps99
    go_wp2
    all_goals
      go_ret
      exact ⟨ret_bool (by first | (simp_all [colB]; done) | (simp only [colB, hq1, Bool.false_or, Bool.or_assoc])), rfl⟩
  cases hq2 : (c.toList == [82])
  · go_enter Tryz.func99, Tryz.ntmps99
    go_wp2
    all_goals
      go_ret
      exact ⟨ret_bool (by first | (simp_all [colB]; done) | (simp only [colB, hq1, Bool.false_or, Bool.or_assoc])), rfl⟩
  cases hq3 : (c.toList == [71])
  · go_enter Tryz.func99, Tryz.ntmps99
    go_wp2
    all_goals
      go_ret
      exact ⟨ret_bool (by first | (simp_all [colB]; done) | (simp only [colB, hq1, Bool.false_or, Bool.or_assoc])), rfl⟩
  go_enter Tryz.func99, Tryz.ntmps99
  go_wp2
  all_goals
    go_ret
    exact ⟨ret_bool (by first | (simp_all [colB]; done) | (simp only [colB, hq1, Bool.false_or, Bool.or_assoc])), rfl⟩
theorem c_isBearing (n : Int) (w : World) :
    Calls Tryz.prog 50 #[.int .i64 n] w fun e w' => e = .returned (.bool (bearB n)) ∧ w = w' := by
  go_enter Tryz.func50, Tryz.ntmps50
  go_wp2_with (first | (go_at_call 43; refine (c_within _ _ _ _).mono ?_; rintro e w' ⟨rfl, rfl⟩))
  go_ret
  exact ⟨rfl, rfl⟩
theorem c_modulo (a : Int) (w : World) (h : I64 a) :
    Calls Tryz.prog 82 #[.int .i64 a, .int .i64 360] w fun e w' => e = .returned (.int .i64 (a % 360)) ∧ w = w' := by
  unfold I64 at h
  have h1 : (0 ≤ a ∧ a.tmod 360 = a % 360) ∨ (a < 0 ∧ a.tmod 360 = -((-a) % 360)) := by
    by_cases h0 : 0 ≤ a
    · exact .inl ⟨h0, Int.tmod_eq_emod_of_nonneg h0⟩
    · refine .inr ⟨by omega, ?_⟩
      rw [← Int.tmod_eq_emod_of_nonneg (show 0 ≤ -a by omega), Int.neg_tmod]; omega
  have h2 : -360 < a.tmod 360 ∧ a.tmod 360 < 360 := by omega
  have H1 := hid h1
  clear h1
  go_enter Tryz.func82, Tryz.ntmps82
  go_wp2
  go_ret
  exact ⟨ret_int (by have := H1.out; omega), rfl⟩
theorem c_l08Ends (bk off : Nat) (f t : Int) (w : World) (c0 : w.cell? ⟨bk, off, none⟩ = some (.int .i64 f)) (c1 : w.cell? ⟨bk, off + 1, none⟩ = some (.int .i64 t)) :
    Calls Tryz.prog 98 #[.pointer (some ⟨bk, off, none⟩)] w fun e w' => e = .returned (.bool (bearB f && bearB t)) ∧ w = w' := by
  cases hq1 : bearB f
  · have hb : inB f 0 359 = bearB f := rfl
    have hb2 : inB t 0 359 = bearB t := rfl
    go_enter Tryz.func98, Tryz.ntmps98
    go_wp2_with (first | (go_at_call 90; refine (c_l00In _ _ _ _).mono ?_; rintro e w' ⟨rfl, rfl⟩))
    go_ret
    exact ⟨ret_bool (by simp [*]), rfl⟩
  have hb : inB f 0 359 = bearB f := rfl
  have hb2 : inB t 0 359 = bearB t := rfl
  go_enter Tryz.func98, Tryz.ntmps98
  go_wp2_with (first | (go_at_call 90; refine (c_l00In _ _ _ _).mono ?_; rintro e w' ⟨rfl, rfl⟩))
  go_ret
  exact ⟨ret_bool (by simp [*]), rfl⟩
theorem c_l08One (bk off : Nat) (f t : Int) (c : ByteArray) (w : World) (c0 : w.cell? ⟨bk, off, none⟩ = some (.int .i64 f)) (c1 : w.cell? ⟨bk, off + 1, none⟩ = some (.int .i64 t)) (c2 : w.cell? ⟨bk, off + 2, none⟩ = some (.string c)) :
    Calls Tryz.prog 83 #[.pointer (some ⟨bk, off, none⟩)] w fun e w' => e = .returned (.bool (sectB f t c)) ∧ w = w' := by
  cases hq : (bearB f && bearB t)
  all_goals
    go_enter Tryz.func83, Tryz.ntmps83
    go_wp2_with (first | (go_at_call 98; refine (c_l08Ends _ _ f t _ c0 c1).mono ?_; rintro e w' ⟨rfl, rfl⟩) | (go_at_call 99; refine (c_l08Color _ _).mono ?_; rintro e w' ⟨rfl, rfl⟩))
    go_ret
    exact ⟨ret_bool (by simp [sectB, ← Bool.and_assoc, hq]), rfl⟩
theorem c_ValidSector (f t : Int) (c : ByteArray) (w : World) (h : c.size ≤ maxLen) :
    Calls Tryz.prog 80 #[.agg #[.int .i64 f, .int .i64 t, .string c]] w fun e w' => e = .returned (.bool (sectB f t c)) ∧ Below w.heap.size w w' := by
  cases hq1 : bearB f
  · go_enter Tryz.func80, Tryz.ntmps80
    go_wp2_with (first | (go_at_call 50; refine (c_isBearing _ _).mono ?_; rintro e w' ⟨rfl, rfl⟩) | (go_at_call 51; refine (c_isColor _ _ (by assumption)).mono ?_; rintro e w' ⟨rfl, rfl⟩))
    go_ret
    exact ⟨ret_bool (by simp [sectB, *]), by (repeat' (first | (with_reducible exact Below.refl _ _) | (with_reducible refine Below.alloc ?_ ?_ _) | (with_reducible refine Below.drew ?_) | (with_reducible refine below_drewN ?_ _) | (with_reducible refine Below.setCell ?_ ?_ _) | (with_reducible refine below_via ‹_› ?_ ?_) | (with_reducible refine below_grow ?_ ?_ _ _) | omega | (simp; done) | (simp; omega)))⟩
  cases hq2 : bearB t
  · go_enter Tryz.func80, Tryz.ntmps80
    go_wp2_with (first | (go_at_call 50; refine (c_isBearing _ _).mono ?_; rintro e w' ⟨rfl, rfl⟩) | (go_at_call 51; refine (c_isColor _ _ (by assumption)).mono ?_; rintro e w' ⟨rfl, rfl⟩))
    go_ret
    exact ⟨ret_bool (by simp [sectB, *]), by (repeat' (first | (with_reducible exact Below.refl _ _) | (with_reducible refine Below.alloc ?_ ?_ _) | (with_reducible refine Below.drew ?_) | (with_reducible refine below_drewN ?_ _) | (with_reducible refine Below.setCell ?_ ?_ _) | (with_reducible refine below_via ‹_› ?_ ?_) | (with_reducible refine below_grow ?_ ?_ _ _) | omega | (simp; done) | (simp; omega)))⟩
  go_enter Tryz.func80, Tryz.ntmps80
  go_wp2_with (first | (go_at_call 50; refine (c_isBearing _ _).mono ?_; rintro e w' ⟨rfl, rfl⟩) | (go_at_call 51; refine (c_isColor _ _ (by assumption)).mono ?_; rintro e w' ⟨rfl, rfl⟩))
  go_ret
  exact ⟨ret_bool (by simp [sectB, *]), by (repeat' (first | (with_reducible exact Below.refl _ _) | (with_reducible refine Below.alloc ?_ ?_ _) | (with_reducible refine Below.drew ?_) | (with_reducible refine below_drewN ?_ _) | (with_reducible refine Below.setCell ?_ ?_ _) | (with_reducible refine below_via ‹_› ?_ ?_) | (with_reducible refine below_grow ?_ ?_ _ _) | omega | (simp; done) | (simp; omega)))⟩
theorem c_arc (f t : Int) (c : ByteArray) (w : World) (hf : bearB f = true) (ht : bearB t = true) :
    Calls Tryz.prog 56 #[.agg #[.int .i64 f, .int .i64 t, .string c]] w fun e w' => e = .returned (.int .i64 (arcV f t)) ∧ Below w.heap.size w w' := by
  have h1 := inB_true hf
  have h2 := inB_true ht
  have hb := arcV_bd f t
  go_enter Tryz.func56, Tryz.ntmps56
  go_wp2_with (go_at_call 82; refine (c_modulo _ _ (by unfold I64; omega)).mono ?_; rintro e w' ⟨rfl, rfl⟩)
  go_ret
  exact ⟨rfl, by (repeat' (first | (with_reducible exact Below.refl _ _) | (with_reducible refine Below.alloc ?_ ?_ _) | (with_reducible refine Below.drew ?_) | (with_reducible refine below_drewN ?_ _) | (with_reducible refine Below.setCell ?_ ?_ _) | (with_reducible refine below_via ‹_› ?_ ?_) | (with_reducible refine below_grow ?_ ?_ _ _) | omega | (simp; done) | (simp; omega)))⟩
theorem c_l08Arc (bk off : Nat) (f t : Int) (w : World) (c0 : w.cell? ⟨bk, off, none⟩ = some (.int .i64 f)) (c1 : w.cell? ⟨bk, off + 1, none⟩ = some (.int .i64 t)) (hf : bearB f = true) (ht : bearB t = true) :
    Calls Tryz.prog 84 #[.pointer (some ⟨bk, off, none⟩)] w fun e w' => e = .returned (.int .i64 (arcV f t)) ∧ Below w.heap.size w w' := by
  have h1 := inB_true hf
  have h2 := inB_true ht
  have HA := hid (show arcV f t = (t - f - 1) % 360 + 1 from rfl)
  by_cases h0 : (t - f + 360) % 360 = 0
  · have hB : (((t - f + 360) % 360) == 0) = true := by simpa using h0
    have H0 := hid h0
    clear h0
    go_enter Tryz.func84, Tryz.ntmps84
    go_wp2
    go_quiet (fail)
    go_wp2
    go_ret
    exact ⟨ret_int (by rw [HA.out]; have := H0.out; omega), by (repeat' (first | (with_reducible exact Below.refl _ _) | (with_reducible refine Below.alloc ?_ ?_ _) | (with_reducible refine Below.drew ?_) | (with_reducible refine below_drewN ?_ _) | (with_reducible refine Below.setCell ?_ ?_ _) | (with_reducible refine below_via ‹_› ?_ ?_) | (with_reducible refine below_grow ?_ ?_ _ _) | omega | (simp; done) | (simp; omega)))⟩
  · have hB : (((t - f + 360) % 360) == 0) = false := by simpa using h0
    have H0 := hid h0
    clear h0
    go_enter Tryz.func84, Tryz.ntmps84
    go_wp2
    go_quiet (fail)
    go_wp2
    go_ret
    exact ⟨ret_int (by rw [HA.out]; have := H0.out; omega), by (repeat' (first | (with_reducible exact Below.refl _ _) | (with_reducible refine Below.alloc ?_ ?_ _) | (with_reducible refine Below.drew ?_) | (with_reducible refine below_drewN ?_ _) | (with_reducible refine Below.setCell ?_ ?_ _) | (with_reducible refine below_via ‹_› ?_ ?_) | (with_reducible refine below_grow ?_ ?_ _ _) | omega | (simp; done) | (simp; omega)))⟩
set_option maxHeartbeats 400000 in
theorem c_has (f t : Int) (c : ByteArray) (n : Int) (w : World) (hf : bearB f = true) (ht : bearB t = true) (hn : I64 n) :
    Calls Tryz.prog 53 #[.agg #[.int .i64 f, .int .i64 t, .string c], .int .i64 n] w fun e w' => e = .returned (.bool (hasV f t n)) ∧ Below w.heap.size w w' := by
  have h1 := inB_true hf
  have h2 := inB_true ht
  have HH := hid (show hasV f t n = decide ((wrap64 (n - f)) % 360 < arcV f t) from rfl)
  go_enter Tryz.func53, Tryz.ntmps53
  go_wp2
  obtain ⟨w1, hw⟩ : ∃ z, z = w.alloc (Obj.cells #[.int .i64 f, .int .i64 t, .string c] 45) := ⟨_, rfl⟩
  rw [← hw]
  have r0 := cellr (show w1.cell? ⟨w.heap.size, 0, none⟩ = some (.int .i64 f) by rw [hw]; simp [go_sem])
  have r1 := cellr (show w1.cell? ⟨w.heap.size, 1, none⟩ = some (.int .i64 t) by rw [hw]; simp [go_sem])
  have r2 := cellr (show w1.cell? ⟨w.heap.size, 2, none⟩ = some (.string c) by rw [hw]; simp [go_sem])
  have hB1 : Below w.heap.size w w1 := hw ▸ (by (repeat' (first | (with_reducible exact Below.refl _ _) | (with_reducible refine Below.alloc ?_ ?_ _) | (with_reducible refine Below.drew ?_) | (with_reducible refine below_drewN ?_ _) | (with_reducible refine Below.setCell ?_ ?_ _) | (with_reducible refine below_via ‹_› ?_ ?_) | (with_reducible refine below_grow ?_ ?_ _ _) | omega | (simp; done) | (simp; omega))))
  have hz1 := hB1.size
  clear hw
  have hI : I64 (wrap64 (n - f)) := by
    rw [← IntWalk.i64_left]
    unfold I64 IntKind.wrap; simp [IntKind.signed, IntKind.bits]; omega
  (refine wp_region_quiet_below (by kernel_rfl) (by kernel_rfl) ?_; (repeat (first | go_big_quiet_step ((first | (go_at_call 82; exact regrown_of_pure (c_modulo _ _ hI)) | (go_at_call 56; exact regrown_of (c_arc f t c _ hf ht)))) | quiet_step ((first | (go_at_call 82; exact regrown_of_pure (c_modulo _ _ hI)) | (go_at_call 56; exact regrown_of (c_arc f t c _ hf ht)))))); refine wpQuiet_nil ?_; intro w1 hw'; have hb := below_of_regrown hw'; clear hw'; obtain ⟨hc, hf⟩ := bcell hb; have hz := hb.size; (try simp at hz); (try have hz0 : ∀ b, b < w.heap.size → b < w1.heap.size := fun b h => by omega); (try have hz1 : w.heap.size < w1.heap.size := by omega); (try have hz2 : w.heap.size + 1 < w1.heap.size := by omega); (try have hz3 : w.heap.size + 2 < w1.heap.size := by omega))
  go_wp2
  go_ret
  exact ⟨ret_bool HH.out.symm, by (repeat' (first | (with_reducible exact Below.refl _ _) | (with_reducible refine Below.alloc ?_ ?_ _) | (with_reducible refine Below.drew ?_) | (with_reducible refine below_drewN ?_ _) | (with_reducible refine Below.setCell ?_ ?_ _) | (with_reducible refine below_via ‹_› ?_ ?_) | (with_reducible refine below_grow ?_ ?_ _ _) | omega | (simp; done) | (simp; omega)))⟩

/-! ### what a valid list is: two forms -/
def totA (a : Nat → Int) : Nat → Int
  | 0 => 0
  | n + 1 => totA a n + a n
section
variable {n : Nat} {f a : Nat → Int}
theorem rise_lt (hs : ∀ i, 0 < i → i < n → f (i - 1) < f i) : ∀ j, j < n → ∀ i, i < j → f i < f j := by
  intro j
  induction j with
  | zero => intro _ i hi; omega
  | succ j ih =>
    intro hj i hi
    have h1 := hs (j + 1) (by omega) hj
    simp only [Nat.add_sub_cancel] at h1
    by_cases e : i = j
    · subst e; exact h1
    · have := ih (by omega) i (by omega); omega
theorem gap_has (hs : ∀ i, 0 < i → i < n → f (i - 1) < f i) (hb : ∀ i, i < n → 0 ≤ f i ∧ f i ≤ 359) (hg : ∀ i, i < n → a i ≤ (f ((i + 1) % n) - f i + 360) % 360) (i k : Nat) (hi : i < n) (hk : k < n) (hne : k ≠ i) : a i ≤ (f k - f i) % 360 := by
  have h := hg i hi
  have b1 := hb i hi
  have b2 := hb k hk
  by_cases hl : i + 1 < n
  · rw [Nat.mod_eq_of_lt hl] at h
    have b3 := hb (i + 1) hl
    have s1 := rise_lt hs (i + 1) hl i (by omega)
    by_cases hki : k < i
    · have := rise_lt hs i hi k hki; omega
    · by_cases e : k = i + 1
      · subst e; omega
      · have := rise_lt hs k hk (i + 1) (by omega); omega
  · have e : i + 1 = n := by omega
    rw [e, Nat.mod_self] at h
    have b3 := hb 0 (by omega)
    have hki : k < i := by omega
    have s1 := rise_lt hs i hi k hki
    by_cases e0 : k = 0
    · subst e0; omega
    · have := rise_lt hs k hk 0 (by omega); omega
theorem gap_tot (hs : ∀ i, 0 < i → i < n → f (i - 1) < f i) (hb : ∀ i, i < n → 0 ≤ f i ∧ f i ≤ 359) (hg : 1 < n → ∀ i, i < n → a i ≤ (f ((i + 1) % n) - f i + 360) % 360) (h1 : ∀ i, i < n → a i ≤ 360) : totA a n ≤ 360 := by
  by_cases hn : 1 < n
  · have hp : ∀ i, i < n → totA a i ≤ f i - f 0 := by
      intro i
      induction i with
      | zero => intro _; simp [totA]
      | succ i ih =>
        intro hi
        have := ih (by omega)
        have h := hg hn i (by omega)
        rw [Nat.mod_eq_of_lt hi] at h
        have s1 := rise_lt hs (i + 1) hi i (by omega)
        have b1 := hb i (by omega); have b2 := hb (i + 1) hi
        simp only [totA]; omega
    obtain ⟨m, rfl⟩ : ∃ m, n = m + 1 := ⟨n - 1, by omega⟩
    have := hp m (by omega)
    have h := hg hn m (by omega)
    rw [Nat.mod_self] at h
    have s1 := rise_lt hs m (by omega) 0 (by omega)
    have b1 := hb m (by omega); have b2 := hb 0 (by omega)
    simp only [totA]; omega
  · by_cases e : n = 0
    · subst e; simp [totA]
    · have e1 : n = 1 := by omega
      subst e1
      have := h1 0 (by omega)
      simp [totA]; omega
end
end Go.Proofs.YtabbhlehbhadiaaGreatDoor
namespace Go.Proofs.YtabbhlehbhadiaaGreatDoor
open Go.RowKit Go.Sort
set_option linter.unusedVariables false
set_option maxRecDepth 100000

theorem c_impl_ArcOf (f t : Int) (c : ByteArray) (w : World) (hf : bearB f = true) (ht : bearB t = true) :
    Calls Tryz.prog 19 #[.agg #[.int .i64 f, .int .i64 t, .string c]] w fun e w' => e = .returned (.int .i64 (arcV f t)) ∧ Below w.heap.size w w' := by
  go_enter Tryz.func19, Tryz.ntmps19
  go_wp2_with (first | (go_at_call 50; refine (c_isBearing _ _).mono ?_; rintro e w' ⟨rfl, rfl⟩) | (go_at_call 56; refine (c_arc _ _ _ _ (by assumption) (by assumption)).mono ?_; rintro e w1 ⟨rfl, hb⟩; obtain ⟨hc, hf⟩ := bcell hb; have hz := hb.size; (try simp at hz); (try have hz0 : ∀ b, b < w.heap.size → b < w1.heap.size := fun b h => by omega); (try have hz1 : w.heap.size < w1.heap.size := by omega); (try have hz2 : w.heap.size + 1 < w1.heap.size := by omega); (try have hz3 : w.heap.size + 2 < w1.heap.size := by omega)))
  go_ret
  exact ⟨rfl, by (repeat' (first | (with_reducible exact Below.refl _ _) | (with_reducible refine Below.alloc ?_ ?_ _) | (with_reducible refine Below.drew ?_) | (with_reducible refine below_drewN ?_ _) | (with_reducible refine Below.setCell ?_ ?_ _) | (with_reducible refine below_via ‹_› ?_ ?_) | (with_reducible refine below_grow ?_ ?_ _ _) | omega | (simp; done) | (simp; omega)))⟩
end Go.Proofs.YtabbhlehbhadiaaGreatDoor
