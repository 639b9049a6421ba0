/- Warnings: validity, on both sides. -/
import Derived.Test.YtajlllpjgeoliaaTWarning
import Derived.Test.YtajlllpjgeoliaaTInt64
import Derived.Test.YtajlllpjgeoliaaWork
namespace Go.Proofs.Ytajlllpjgeoliaa
open Go.RowKit Go.Sort
set_option maxRecDepth 100000

def plainCh (c : UInt8) : Bool := inB (c.toNat : Int) 32 126
def plainB (s : ByteArray) : Bool := s.toList.all plainCh
theorem plainCh_lo {c : UInt8} (h : (c.toNat : Int) < 32) : plainCh c = false := by simp [plainCh, inB]; omega
theorem plainCh_hi {c : UInt8} (h : 126 < (c.toNat : Int)) : plainCh c = false := by simp [plainCh, inB]; omega
theorem plainCh_in {c : UInt8} (h : 32 ≤ (c.toNat : Int)) (h' : (c.toNat : Int) ≤ 126) : plainCh c = true := by simp [plainCh, inB]; omega
theorem plain_cases (c : UInt8) : ((c.toNat : Int) < 32 ∧ plainCh c = false) ∨ (32 ≤ (c.toNat : Int) ∧ 126 < (c.toNat : Int) ∧ plainCh c = false) ∨ (32 ≤ (c.toNat : Int) ∧ (c.toNat : Int) ≤ 126 ∧ plainCh c = true) := by
  by_cases h : (c.toNat : Int) < 32
  · exact Or.inl ⟨h, plainCh_lo h⟩
  · by_cases h2 : (c.toNat : Int) ≤ 126
    · exact Or.inr (Or.inr ⟨by omega, h2, plainCh_in (by omega) h2⟩)
    · exact Or.inr (Or.inl ⟨by omega, by omega, plainCh_hi (by omega)⟩)
theorem c_isPlain (s : ByteArray) (w : World) (hs : s.size ≤ maxLen) :
    Calls Try.prog 60 #[.string s] w fun e w' => e = .returned (.bool (plainB s)) ∧ w = w' := by
  unfold maxLen at hs
  go_enter Try.func60, Try.ntmps60
  go_wp2
  go_loop [3] (fun i => ∃ k : Nat, k ≤ s.size ∧ i = .int .i64 k ∧ plainB s = (s.toList.drop k).all plainCh) (fun i => s.size - (intOf i).toNat)
  case atStart => exact ⟨0, Nat.zero_le _, rfl, by simp [plainB]⟩
  case round =>
    obtain ⟨k, hk, rfl, hn⟩ := hrel
    by_cases hlt : k < s.size
    · have HA := hid (hn.trans (str_all s plainCh k hlt)); clear hn
      have hw := hid (show inB (wrap64 (s[k].toNat : Int)) 32 126 = plainCh s[k] by rw [show wrap64 (s[k].toNat : Int) = s[k].toNat by have := s[k].toNat_lt; unfold wrap64; omega]; rfl)
      cases hp : inB (wrap64 (s[k].toNat : Int)) 32 126
      · go_wp2_with (first | (go_at_call 56; refine (c_within _ _ _ _).mono ?_; rintro e w' ⟨rfl, rfl⟩))
        go_ret
        rw [HA.out, ← hw.out, hp]; simp
      · go_wp2_with (first | (go_at_call 56; refine (c_within _ _ _ _).mono ?_; rintro e w' ⟨rfl, rfl⟩))
        go_round
        case rel => exact ⟨k+1, by omega, by go_num, by rw [HA.out, ← hw.out, hp]; simp⟩
        case measure => simp [intOf]; omega
    · have HA := hid (hn.trans (str_all_end s plainCh k (by omega))); clear hn
      go_wp2
      go_ret
      simp [HA.out]
theorem c_isNumber (n : Int) (w : World) :
    Calls Try.prog 55 #[.int .i64 n] w fun e w' => e = .returned (.bool (inB n 1 9999)) ∧ w = w' := by
  go_enter Try.func55, Try.ntmps55
  go_wp2_with (first | (go_at_call 56; refine (c_within _ _ _ _).mono ?_; rintro e w' ⟨rfl, rfl⟩))
  go_ret
  exact ⟨rfl, rfl⟩
theorem c_isTime (n : Int) (w : World) :
    Calls Try.prog 57 #[.int .i64 n] w fun e w' => e = .returned (.bool (inB n 0 143999999)) ∧ w = w' := by
  go_enter Try.func57, Try.ntmps57
  go_wp2_with (first | (go_at_call 56; refine (c_within _ _ _ _).mono ?_; rintro e w' ⟨rfl, rfl⟩))
  go_ret
  exact ⟨rfl, rfl⟩
theorem c_isAway (n : Int) (w : World) :
    Calls Try.prog 59 #[.int .i64 n] w fun e w' => e = .returned (.bool (inB n 0 20000)) ∧ w = w' := by
  go_enter Try.func59, Try.ntmps59
  go_wp2_with (first | (go_at_call 56; refine (c_within _ _ _ _).mono ?_; rintro e w' ⟨rfl, rfl⟩))
  go_ret
  exact ⟨rfl, rfl⟩
theorem c_l20Number (n : Int) (w : World) :
    Calls Try.prog 50 #[.int .i64 n] w fun e w' => e = .returned (.bool (inB n 1 9999)) ∧ w = w' := by
  go_enter Try.func50, Try.ntmps50
  go_wp2_with (first | (go_at_call 45; refine (c_l00In _ _ _ _).mono ?_; rintro e w' ⟨rfl, rfl⟩))
  go_ret
  exact ⟨rfl, rfl⟩
theorem c_l20Time (n : Int) (w : World) :
    Calls Try.prog 52 #[.int .i64 n] w fun e w' => e = .returned (.bool (inB n 0 143999999)) ∧ w = w' := by
  go_enter Try.func52, Try.ntmps52
  go_wp2_with (first | (go_at_call 45; refine (c_l00In _ _ _ _).mono ?_; rintro e w' ⟨rfl, rfl⟩))
  go_ret
  exact ⟨rfl, rfl⟩
theorem c_l22Priority (n : Int) (w : World) :
    Calls Try.prog 51 #[.int .i64 n] w fun e w' => e = .returned (.bool (inB n 1 3)) ∧ w = w' := by
  go_enter Try.func51, Try.ntmps51
  go_wp2_with (first | (go_at_call 45; refine (c_l00In _ _ _ _).mono ?_; rintro e w' ⟨rfl, rfl⟩))
  go_ret
  exact ⟨rfl, rfl⟩

def warnH (n p f u x y r : Int) : Bool :=
  inB n 1 9999 && inB p 1 3 && inB f 0 143999999 && inB u 0 143999999 && decide (f < u) && pointB x y && inB r 0 20000
def warnB (n p f u x y r : Int) (s : ByteArray) : Bool := warnH n p f u x y r && inB (s.size : Int) 1 60 && plainB s
def warnD (d : WarningD) : Bool := warnB d.fNumber d.fPriority d.fFrom d.fUntil d.fAtX d.fAtY d.fRadius d.fWords
theorem upper_in {f u : Int} (hf : inB f 0 143999999 = true) : inB u (f + 1) 143999999 = (inB u 0 143999999 && decide (f < u)) := by
  have := inB_true hf
  simp only [inB]; rw [Bool.eq_iff_iff]; simp; omega
set_option maxHeartbeats 1000000 in
theorem c_l22One (bk off : Nat) (n p f u x y r : Int) (s : ByteArray) (w : World) (hbk : bk < w.heap.size) (hs : s.size ≤ maxLen) (h0 : w.cell? ⟨bk, off, none⟩ = some (.int .i64 n)) (h1 : w.cell? ⟨bk, off+1, none⟩ = some (.int .i64 p))
    (h2 : w.cell? ⟨bk, off+2, none⟩ = some (.int .i64 f)) (h3 : w.cell? ⟨bk, off+3, none⟩ = some (.int .i64 u)) (h4 : w.cell? ⟨bk, off+4, none⟩ = some (.int .i64 x)) (h5 : w.cell? ⟨bk, off+5, none⟩ = some (.int .i64 y)) (h6 : w.cell? ⟨bk, off+6, none⟩ = some (.int .i64 r)) (h7 : w.cell? ⟨bk, off+7, none⟩ = some (.string s)) :
    Calls Try.prog 30 #[.pointer (some ⟨bk, off, none⟩)] w fun e w' => e = .returned (.bool (warnB n p f u x y r s)) ∧ Below w.heap.size w w' := by
  have hs' := hs
  unfold maxLen at hs'
  have r0 := cellr h0
  have r1 := cellr h1
  have r2 := cellr h2
  have r3 := cellr h3
  have r4 := cellr h4
  have r5 := cellr h5
  have r6 := cellr h6
  cases hq1 : inB n 1 9999
  · (try have hd : decide (u ≤ f) = true := decide_eq_true (Int.not_lt.mp (of_decide_eq_false hq5)))
    (try have hd : decide (u ≤ f) = false := decide_eq_false (Int.not_le.mpr (of_decide_eq_true hq5)))
    go_enter Try.func30, Try.ntmps30
    go_wp2
    (refine wp_region_quiet_below (by kernel_rfl) (by kernel_rfl) ?_; (repeat (first | go_big_quiet_step ((first | (go_at_call 50; first | exact regrown_bool_pure (c_l20Number _ _) (by assumption) | exact regrown_of_pure (c_l20Number _ _)) | (go_at_call 51; first | exact regrown_bool_pure (c_l22Priority _ _) (by assumption) | exact regrown_of_pure (c_l22Priority _ _)) | (go_at_call 52; first | exact regrown_bool_pure (c_l20Time _ _) (by assumption) | exact regrown_of_pure (c_l20Time _ _)) | (go_at_call 53; first | exact regrown_bool (c_l02Ok _ _ _) (by assumption) | exact regrown_of (c_l02Ok _ _ _)) | (go_at_call 45; first | exact regrown_bool_pure (c_l00In _ _ _ _) (by assumption) | exact regrown_of_pure (c_l00In _ _ _ _)))) | quiet_step ((first | (go_at_call 50; first | exact regrown_bool_pure (c_l20Number _ _) (by assumption) | exact regrown_of_pure (c_l20Number _ _)) | (go_at_call 51; first | exact regrown_bool_pure (c_l22Priority _ _) (by assumption) | exact regrown_of_pure (c_l22Priority _ _)) | (go_at_call 52; first | exact regrown_bool_pure (c_l20Time _ _) (by assumption) | exact regrown_of_pure (c_l20Time _ _)) | (go_at_call 53; first | exact regrown_bool (c_l02Ok _ _ _) (by assumption) | exact regrown_of (c_l02Ok _ _ _)) | (go_at_call 45; first | exact regrown_bool_pure (c_l00In _ _ _ _) (by assumption) | exact regrown_of_pure (c_l00In _ _ _ _)))))); refine wpQuiet_nil ?_; intro w1 hw'; have hb := below_of_regrown hw'; clear hw'; obtain ⟨hc, hf⟩ := bcell hb; have hz := hb.size; (try simp at hz); (try have hz0 : ∀ b, b < w.heap.size → b < w1.heap.size := fun b h => by omega); (try have hz1 : w.heap.size < w1.heap.size := by omega); (try have hz2 : w.heap.size + 1 < w1.heap.size := by omega); (try have hz3 : w.heap.size + 2 < w1.heap.size := by omega))
    go_wp2
    go_ret
    refine ⟨ret_bool ?_, by (repeat' (first | (with_reducible exact Below.refl _ _) | (with_reducible refine Below.alloc ?_ ?_ _) | (with_reducible refine Below.drew ?_) | (with_reducible refine below_drewN ?_ _) | (with_reducible refine Below.setCell ?_ ?_ _) | (with_reducible refine below_via ‹_› ?_ ?_) | (with_reducible refine below_grow ?_ ?_ _ _) | omega | (simp; done) | (simp; omega)))⟩
    go_light
    simp [warnB, warnH, *]
  cases hq2 : inB p 1 3
  · (try have hd : decide (u ≤ f) = true := decide_eq_true (Int.not_lt.mp (of_decide_eq_false hq5)))
    (try have hd : decide (u ≤ f) = false := decide_eq_false (Int.not_le.mpr (of_decide_eq_true hq5)))
    go_enter Try.func30, Try.ntmps30
    go_wp2
    (refine wp_region_quiet_below (by kernel_rfl) (by kernel_rfl) ?_; (repeat (first | go_big_quiet_step ((first | (go_at_call 50; first | exact regrown_bool_pure (c_l20Number _ _) (by assumption) | exact regrown_of_pure (c_l20Number _ _)) | (go_at_call 51; first | exact regrown_bool_pure (c_l22Priority _ _) (by assumption) | exact regrown_of_pure (c_l22Priority _ _)) | (go_at_call 52; first | exact regrown_bool_pure (c_l20Time _ _) (by assumption) | exact regrown_of_pure (c_l20Time _ _)) | (go_at_call 53; first | exact regrown_bool (c_l02Ok _ _ _) (by assumption) | exact regrown_of (c_l02Ok _ _ _)) | (go_at_call 45; first | exact regrown_bool_pure (c_l00In _ _ _ _) (by assumption) | exact regrown_of_pure (c_l00In _ _ _ _)))) | quiet_step ((first | (go_at_call 50; first | exact regrown_bool_pure (c_l20Number _ _) (by assumption) | exact regrown_of_pure (c_l20Number _ _)) | (go_at_call 51; first | exact regrown_bool_pure (c_l22Priority _ _) (by assumption) | exact regrown_of_pure (c_l22Priority _ _)) | (go_at_call 52; first | exact regrown_bool_pure (c_l20Time _ _) (by assumption) | exact regrown_of_pure (c_l20Time _ _)) | (go_at_call 53; first | exact regrown_bool (c_l02Ok _ _ _) (by assumption) | exact regrown_of (c_l02Ok _ _ _)) | (go_at_call 45; first | exact regrown_bool_pure (c_l00In _ _ _ _) (by assumption) | exact regrown_of_pure (c_l00In _ _ _ _)))))); refine wpQuiet_nil ?_; intro w1 hw'; have hb := below_of_regrown hw'; clear hw'; obtain ⟨hc, hf⟩ := bcell hb; have hz := hb.size; (try simp at hz); (try have hz0 : ∀ b, b < w.heap.size → b < w1.heap.size := fun b h => by omega); (try have hz1 : w.heap.size < w1.heap.size := by omega); (try have hz2 : w.heap.size + 1 < w1.heap.size := by omega); (try have hz3 : w.heap.size + 2 < w1.heap.size := by omega))
    go_wp2
    go_ret
    refine ⟨ret_bool ?_, by (repeat' (first | (with_reducible exact Below.refl _ _) | (with_reducible refine Below.alloc ?_ ?_ _) | (with_reducible refine Below.drew ?_) | (with_reducible refine below_drewN ?_ _) | (with_reducible refine Below.setCell ?_ ?_ _) | (with_reducible refine below_via ‹_› ?_ ?_) | (with_reducible refine below_grow ?_ ?_ _ _) | omega | (simp; done) | (simp; omega)))⟩
    go_light
    simp [warnB, warnH, *]
  cases hq3 : inB f 0 143999999
  · (try have hd : decide (u ≤ f) = true := decide_eq_true (Int.not_lt.mp (of_decide_eq_false hq5)))
    (try have hd : decide (u ≤ f) = false := decide_eq_false (Int.not_le.mpr (of_decide_eq_true hq5)))
    go_enter Try.func30, Try.ntmps30
    go_wp2
    (refine wp_region_quiet_below (by kernel_rfl) (by kernel_rfl) ?_; (repeat (first | go_big_quiet_step ((first | (go_at_call 50; first | exact regrown_bool_pure (c_l20Number _ _) (by assumption) | exact regrown_of_pure (c_l20Number _ _)) | (go_at_call 51; first | exact regrown_bool_pure (c_l22Priority _ _) (by assumption) | exact regrown_of_pure (c_l22Priority _ _)) | (go_at_call 52; first | exact regrown_bool_pure (c_l20Time _ _) (by assumption) | exact regrown_of_pure (c_l20Time _ _)) | (go_at_call 53; first | exact regrown_bool (c_l02Ok _ _ _) (by assumption) | exact regrown_of (c_l02Ok _ _ _)) | (go_at_call 45; first | exact regrown_bool_pure (c_l00In _ _ _ _) (by assumption) | exact regrown_of_pure (c_l00In _ _ _ _)))) | quiet_step ((first | (go_at_call 50; first | exact regrown_bool_pure (c_l20Number _ _) (by assumption) | exact regrown_of_pure (c_l20Number _ _)) | (go_at_call 51; first | exact regrown_bool_pure (c_l22Priority _ _) (by assumption) | exact regrown_of_pure (c_l22Priority _ _)) | (go_at_call 52; first | exact regrown_bool_pure (c_l20Time _ _) (by assumption) | exact regrown_of_pure (c_l20Time _ _)) | (go_at_call 53; first | exact regrown_bool (c_l02Ok _ _ _) (by assumption) | exact regrown_of (c_l02Ok _ _ _)) | (go_at_call 45; first | exact regrown_bool_pure (c_l00In _ _ _ _) (by assumption) | exact regrown_of_pure (c_l00In _ _ _ _)))))); refine wpQuiet_nil ?_; intro w1 hw'; have hb := below_of_regrown hw'; clear hw'; obtain ⟨hc, hf⟩ := bcell hb; have hz := hb.size; (try simp at hz); (try have hz0 : ∀ b, b < w.heap.size → b < w1.heap.size := fun b h => by omega); (try have hz1 : w.heap.size < w1.heap.size := by omega); (try have hz2 : w.heap.size + 1 < w1.heap.size := by omega); (try have hz3 : w.heap.size + 2 < w1.heap.size := by omega))
    go_wp2
    go_ret
    refine ⟨ret_bool ?_, by (repeat' (first | (with_reducible exact Below.refl _ _) | (with_reducible refine Below.alloc ?_ ?_ _) | (with_reducible refine Below.drew ?_) | (with_reducible refine below_drewN ?_ _) | (with_reducible refine Below.setCell ?_ ?_ _) | (with_reducible refine below_via ‹_› ?_ ?_) | (with_reducible refine below_grow ?_ ?_ _ _) | omega | (simp; done) | (simp; omega)))⟩
    go_light
    simp [warnB, warnH, *]
  cases hq4 : inB u 0 143999999
  · (try have hd : decide (u ≤ f) = true := decide_eq_true (Int.not_lt.mp (of_decide_eq_false hq5)))
    (try have hd : decide (u ≤ f) = false := decide_eq_false (Int.not_le.mpr (of_decide_eq_true hq5)))
    go_enter Try.func30, Try.ntmps30
    go_wp2
    (refine wp_region_quiet_below (by kernel_rfl) (by kernel_rfl) ?_; (repeat (first | go_big_quiet_step ((first | (go_at_call 50; first | exact regrown_bool_pure (c_l20Number _ _) (by assumption) | exact regrown_of_pure (c_l20Number _ _)) | (go_at_call 51; first | exact regrown_bool_pure (c_l22Priority _ _) (by assumption) | exact regrown_of_pure (c_l22Priority _ _)) | (go_at_call 52; first | exact regrown_bool_pure (c_l20Time _ _) (by assumption) | exact regrown_of_pure (c_l20Time _ _)) | (go_at_call 53; first | exact regrown_bool (c_l02Ok _ _ _) (by assumption) | exact regrown_of (c_l02Ok _ _ _)) | (go_at_call 45; first | exact regrown_bool_pure (c_l00In _ _ _ _) (by assumption) | exact regrown_of_pure (c_l00In _ _ _ _)))) | quiet_step ((first | (go_at_call 50; first | exact regrown_bool_pure (c_l20Number _ _) (by assumption) | exact regrown_of_pure (c_l20Number _ _)) | (go_at_call 51; first | exact regrown_bool_pure (c_l22Priority _ _) (by assumption) | exact regrown_of_pure (c_l22Priority _ _)) | (go_at_call 52; first | exact regrown_bool_pure (c_l20Time _ _) (by assumption) | exact regrown_of_pure (c_l20Time _ _)) | (go_at_call 53; first | exact regrown_bool (c_l02Ok _ _ _) (by assumption) | exact regrown_of (c_l02Ok _ _ _)) | (go_at_call 45; first | exact regrown_bool_pure (c_l00In _ _ _ _) (by assumption) | exact regrown_of_pure (c_l00In _ _ _ _)))))); refine wpQuiet_nil ?_; intro w1 hw'; have hb := below_of_regrown hw'; clear hw'; obtain ⟨hc, hf⟩ := bcell hb; have hz := hb.size; (try simp at hz); (try have hz0 : ∀ b, b < w.heap.size → b < w1.heap.size := fun b h => by omega); (try have hz1 : w.heap.size < w1.heap.size := by omega); (try have hz2 : w.heap.size + 1 < w1.heap.size := by omega); (try have hz3 : w.heap.size + 2 < w1.heap.size := by omega))
    go_wp2
    go_ret
    refine ⟨ret_bool ?_, by (repeat' (first | (with_reducible exact Below.refl _ _) | (with_reducible refine Below.alloc ?_ ?_ _) | (with_reducible refine Below.drew ?_) | (with_reducible refine below_drewN ?_ _) | (with_reducible refine Below.setCell ?_ ?_ _) | (with_reducible refine below_via ‹_› ?_ ?_) | (with_reducible refine below_grow ?_ ?_ _ _) | omega | (simp; done) | (simp; omega)))⟩
    go_light
    simp [warnB, warnH, *]
  cases hq5 : decide (f < u)
  · (try have hd : decide (u ≤ f) = true := decide_eq_true (Int.not_lt.mp (of_decide_eq_false hq5)))
    (try have hd : decide (u ≤ f) = false := decide_eq_false (Int.not_le.mpr (of_decide_eq_true hq5)))
    go_enter Try.func30, Try.ntmps30
    go_wp2
    (refine wp_region_quiet_below (by kernel_rfl) (by kernel_rfl) ?_; (repeat (first | go_big_quiet_step ((first | (go_at_call 50; first | exact regrown_bool_pure (c_l20Number _ _) (by assumption) | exact regrown_of_pure (c_l20Number _ _)) | (go_at_call 51; first | exact regrown_bool_pure (c_l22Priority _ _) (by assumption) | exact regrown_of_pure (c_l22Priority _ _)) | (go_at_call 52; first | exact regrown_bool_pure (c_l20Time _ _) (by assumption) | exact regrown_of_pure (c_l20Time _ _)) | (go_at_call 53; first | exact regrown_bool (c_l02Ok _ _ _) (by assumption) | exact regrown_of (c_l02Ok _ _ _)) | (go_at_call 45; first | exact regrown_bool_pure (c_l00In _ _ _ _) (by assumption) | exact regrown_of_pure (c_l00In _ _ _ _)))) | quiet_step ((first | (go_at_call 50; first | exact regrown_bool_pure (c_l20Number _ _) (by assumption) | exact regrown_of_pure (c_l20Number _ _)) | (go_at_call 51; first | exact regrown_bool_pure (c_l22Priority _ _) (by assumption) | exact regrown_of_pure (c_l22Priority _ _)) | (go_at_call 52; first | exact regrown_bool_pure (c_l20Time _ _) (by assumption) | exact regrown_of_pure (c_l20Time _ _)) | (go_at_call 53; first | exact regrown_bool (c_l02Ok _ _ _) (by assumption) | exact regrown_of (c_l02Ok _ _ _)) | (go_at_call 45; first | exact regrown_bool_pure (c_l00In _ _ _ _) (by assumption) | exact regrown_of_pure (c_l00In _ _ _ _)))))); refine wpQuiet_nil ?_; intro w1 hw'; have hb := below_of_regrown hw'; clear hw'; obtain ⟨hc, hf⟩ := bcell hb; have hz := hb.size; (try simp at hz); (try have hz0 : ∀ b, b < w.heap.size → b < w1.heap.size := fun b h => by omega); (try have hz1 : w.heap.size < w1.heap.size := by omega); (try have hz2 : w.heap.size + 1 < w1.heap.size := by omega); (try have hz3 : w.heap.size + 2 < w1.heap.size := by omega))
    go_wp2
    go_ret
    refine ⟨ret_bool ?_, by (repeat' (first | (with_reducible exact Below.refl _ _) | (with_reducible refine Below.alloc ?_ ?_ _) | (with_reducible refine Below.drew ?_) | (with_reducible refine below_drewN ?_ _) | (with_reducible refine Below.setCell ?_ ?_ _) | (with_reducible refine below_via ‹_› ?_ ?_) | (with_reducible refine below_grow ?_ ?_ _ _) | omega | (simp; done) | (simp; omega)))⟩
    go_light
    simp [warnB, warnH, *]
  cases hq6 : pointB x y
  · (try have hd : decide (u ≤ f) = true := decide_eq_true (Int.not_lt.mp (of_decide_eq_false hq5)))
    (try have hd : decide (u ≤ f) = false := decide_eq_false (Int.not_le.mpr (of_decide_eq_true hq5)))
    go_enter Try.func30, Try.ntmps30
    go_wp2
    (refine wp_region_quiet_below (by kernel_rfl) (by kernel_rfl) ?_; (repeat (first | go_big_quiet_step ((first | (go_at_call 50; first | exact regrown_bool_pure (c_l20Number _ _) (by assumption) | exact regrown_of_pure (c_l20Number _ _)) | (go_at_call 51; first | exact regrown_bool_pure (c_l22Priority _ _) (by assumption) | exact regrown_of_pure (c_l22Priority _ _)) | (go_at_call 52; first | exact regrown_bool_pure (c_l20Time _ _) (by assumption) | exact regrown_of_pure (c_l20Time _ _)) | (go_at_call 53; first | exact regrown_bool (c_l02Ok _ _ _) (by assumption) | exact regrown_of (c_l02Ok _ _ _)) | (go_at_call 45; first | exact regrown_bool_pure (c_l00In _ _ _ _) (by assumption) | exact regrown_of_pure (c_l00In _ _ _ _)))) | quiet_step ((first | (go_at_call 50; first | exact regrown_bool_pure (c_l20Number _ _) (by assumption) | exact regrown_of_pure (c_l20Number _ _)) | (go_at_call 51; first | exact regrown_bool_pure (c_l22Priority _ _) (by assumption) | exact regrown_of_pure (c_l22Priority _ _)) | (go_at_call 52; first | exact regrown_bool_pure (c_l20Time _ _) (by assumption) | exact regrown_of_pure (c_l20Time _ _)) | (go_at_call 53; first | exact regrown_bool (c_l02Ok _ _ _) (by assumption) | exact regrown_of (c_l02Ok _ _ _)) | (go_at_call 45; first | exact regrown_bool_pure (c_l00In _ _ _ _) (by assumption) | exact regrown_of_pure (c_l00In _ _ _ _)))))); refine wpQuiet_nil ?_; intro w1 hw'; have hb := below_of_regrown hw'; clear hw'; obtain ⟨hc, hf⟩ := bcell hb; have hz := hb.size; (try simp at hz); (try have hz0 : ∀ b, b < w.heap.size → b < w1.heap.size := fun b h => by omega); (try have hz1 : w.heap.size < w1.heap.size := by omega); (try have hz2 : w.heap.size + 1 < w1.heap.size := by omega); (try have hz3 : w.heap.size + 2 < w1.heap.size := by omega))
    go_wp2
    go_ret
    refine ⟨ret_bool ?_, by (repeat' (first | (with_reducible exact Below.refl _ _) | (with_reducible refine Below.alloc ?_ ?_ _) | (with_reducible refine Below.drew ?_) | (with_reducible refine below_drewN ?_ _) | (with_reducible refine Below.setCell ?_ ?_ _) | (with_reducible refine below_via ‹_› ?_ ?_) | (with_reducible refine below_grow ?_ ?_ _ _) | omega | (simp; done) | (simp; omega)))⟩
    go_light
    simp [warnB, warnH, *]
  cases hq7 : inB r 0 20000
  · (try have hd : decide (u ≤ f) = true := decide_eq_true (Int.not_lt.mp (of_decide_eq_false hq5)))
    (try have hd : decide (u ≤ f) = false := decide_eq_false (Int.not_le.mpr (of_decide_eq_true hq5)))
    go_enter Try.func30, Try.ntmps30
    go_wp2
    (refine wp_region_quiet_below (by kernel_rfl) (by kernel_rfl) ?_; (repeat (first | go_big_quiet_step ((first | (go_at_call 50; first | exact regrown_bool_pure (c_l20Number _ _) (by assumption) | exact regrown_of_pure (c_l20Number _ _)) | (go_at_call 51; first | exact regrown_bool_pure (c_l22Priority _ _) (by assumption) | exact regrown_of_pure (c_l22Priority _ _)) | (go_at_call 52; first | exact regrown_bool_pure (c_l20Time _ _) (by assumption) | exact regrown_of_pure (c_l20Time _ _)) | (go_at_call 53; first | exact regrown_bool (c_l02Ok _ _ _) (by assumption) | exact regrown_of (c_l02Ok _ _ _)) | (go_at_call 45; first | exact regrown_bool_pure (c_l00In _ _ _ _) (by assumption) | exact regrown_of_pure (c_l00In _ _ _ _)))) | quiet_step ((first | (go_at_call 50; first | exact regrown_bool_pure (c_l20Number _ _) (by assumption) | exact regrown_of_pure (c_l20Number _ _)) | (go_at_call 51; first | exact regrown_bool_pure (c_l22Priority _ _) (by assumption) | exact regrown_of_pure (c_l22Priority _ _)) | (go_at_call 52; first | exact regrown_bool_pure (c_l20Time _ _) (by assumption) | exact regrown_of_pure (c_l20Time _ _)) | (go_at_call 53; first | exact regrown_bool (c_l02Ok _ _ _) (by assumption) | exact regrown_of (c_l02Ok _ _ _)) | (go_at_call 45; first | exact regrown_bool_pure (c_l00In _ _ _ _) (by assumption) | exact regrown_of_pure (c_l00In _ _ _ _)))))); refine wpQuiet_nil ?_; intro w1 hw'; have hb := below_of_regrown hw'; clear hw'; obtain ⟨hc, hf⟩ := bcell hb; have hz := hb.size; (try simp at hz); (try have hz0 : ∀ b, b < w.heap.size → b < w1.heap.size := fun b h => by omega); (try have hz1 : w.heap.size < w1.heap.size := by omega); (try have hz2 : w.heap.size + 1 < w1.heap.size := by omega); (try have hz3 : w.heap.size + 2 < w1.heap.size := by omega))
    go_wp2
    go_ret
    refine ⟨ret_bool ?_, by (repeat' (first | (with_reducible exact Below.refl _ _) | (with_reducible refine Below.alloc ?_ ?_ _) | (with_reducible refine Below.drew ?_) | (with_reducible refine below_drewN ?_ _) | (with_reducible refine Below.setCell ?_ ?_ _) | (with_reducible refine below_via ‹_› ?_ ?_) | (with_reducible refine below_grow ?_ ?_ _ _) | omega | (simp; done) | (simp; omega)))⟩
    go_light
    simp [warnB, warnH, *]
  have HW := hid (show warnB n p f u x y r s = (inB (s.size : Int) 1 60 && plainB s) by simp [warnB, warnH, *])
  (try have hd : decide (u ≤ f) = true := decide_eq_true (Int.not_lt.mp (of_decide_eq_false hq5)))
  (try have hd : decide (u ≤ f) = false := decide_eq_false (Int.not_le.mpr (of_decide_eq_true hq5)))
  go_enter Try.func30, Try.ntmps30
  go_wp2
  (refine wp_region_quiet_below (by kernel_rfl) (by kernel_rfl) ?_; (repeat (first | go_big_quiet_step ((first | (go_at_call 50; first | exact regrown_bool_pure (c_l20Number _ _) (by assumption) | exact regrown_of_pure (c_l20Number _ _)) | (go_at_call 51; first | exact regrown_bool_pure (c_l22Priority _ _) (by assumption) | exact regrown_of_pure (c_l22Priority _ _)) | (go_at_call 52; first | exact regrown_bool_pure (c_l20Time _ _) (by assumption) | exact regrown_of_pure (c_l20Time _ _)) | (go_at_call 53; first | exact regrown_bool (c_l02Ok _ _ _) (by assumption) | exact regrown_of (c_l02Ok _ _ _)) | (go_at_call 45; first | exact regrown_bool_pure (c_l00In _ _ _ _) (by assumption) | exact regrown_of_pure (c_l00In _ _ _ _)))) | quiet_step ((first | (go_at_call 50; first | exact regrown_bool_pure (c_l20Number _ _) (by assumption) | exact regrown_of_pure (c_l20Number _ _)) | (go_at_call 51; first | exact regrown_bool_pure (c_l22Priority _ _) (by assumption) | exact regrown_of_pure (c_l22Priority _ _)) | (go_at_call 52; first | exact regrown_bool_pure (c_l20Time _ _) (by assumption) | exact regrown_of_pure (c_l20Time _ _)) | (go_at_call 53; first | exact regrown_bool (c_l02Ok _ _ _) (by assumption) | exact regrown_of (c_l02Ok _ _ _)) | (go_at_call 45; first | exact regrown_bool_pure (c_l00In _ _ _ _) (by assumption) | exact regrown_of_pure (c_l00In _ _ _ _)))))); refine wpQuiet_nil ?_; intro w1 hw'; have hb := below_of_regrown hw'; clear hw'; obtain ⟨hc, hf⟩ := bcell hb; have hz := hb.size; (try simp at hz); (try have hz0 : ∀ b, b < w.heap.size → b < w1.heap.size := fun b h => by omega); (try have hz1 : w.heap.size < w1.heap.size := by omega); (try have hz2 : w.heap.size + 1 < w1.heap.size := by omega); (try have hz3 : w.heap.size + 2 < w1.heap.size := by omega))
  clear hd hq1 hq2 hq3 hq4 hq5 hq6 hq7 r0 r1 r2 r3 r4 r5 r6
  go_wp2
  go_loopw [3] (fun i wr => ∃ k : Nat, k ≤ s.size ∧ i = .int .i64 k ∧ plainB s = (s.toList.drop k).all plainCh ∧ Below w.heap.size w wr) (fun i _ => s.size - (intOf i).toNat)
  case atStart => exact ⟨0, Nat.zero_le _, rfl, by simp [plainB], by (repeat' (first | (with_reducible exact Below.refl _ _) | (with_reducible refine Below.alloc ?_ ?_ _) | (with_reducible refine Below.drew ?_) | (with_reducible refine below_drewN ?_ _) | (with_reducible refine Below.setCell ?_ ?_ _) | (with_reducible refine below_via ‹_› ?_ ?_) | (with_reducible refine below_grow ?_ ?_ _ _) | omega | (simp; done) | (simp; omega)))⟩
  case round =>
    obtain ⟨k, hk, rfl, hn, hB⟩ := hrel
    have hzr := hB.size
    have g7 := (hB.cell (p := ⟨bk, off + 7, none⟩) hbk).trans h7
    by_cases hlt : k < s.size
    · have HA := hid (hn.trans (str_all s plainCh k hlt)); clear hn
      rcases plain_cases s[k] with ⟨c1, hp⟩ | ⟨c1, c2, hp⟩ | ⟨c1, c2, hp⟩
      · go_wp2
        go_ret
        exact ⟨ret_bool (by rw [HW.out, HA.out, hp]; simp), by (repeat' (first | (with_reducible exact Below.refl _ _) | (with_reducible refine Below.alloc ?_ ?_ _) | (with_reducible refine Below.drew ?_) | (with_reducible refine below_drewN ?_ _) | (with_reducible refine Below.setCell ?_ ?_ _) | (with_reducible refine below_via ‹_› ?_ ?_) | (with_reducible refine below_grow ?_ ?_ _ _) | omega | (simp; done) | (simp; omega)))⟩
      · go_wp2
        go_ret
        exact ⟨ret_bool (by rw [HW.out, HA.out, hp]; simp), by (repeat' (first | (with_reducible exact Below.refl _ _) | (with_reducible refine Below.alloc ?_ ?_ _) | (with_reducible refine Below.drew ?_) | (with_reducible refine below_drewN ?_ _) | (with_reducible refine Below.setCell ?_ ?_ _) | (with_reducible refine below_via ‹_› ?_ ?_) | (with_reducible refine below_grow ?_ ?_ _ _) | omega | (simp; done) | (simp; omega)))⟩
      · go_wp2
        go_roundw
        case rel => exact ⟨k+1, by omega, by go_num, by rw [HA.out, hp]; simp, by (repeat' (first | (with_reducible exact Below.refl _ _) | (with_reducible refine Below.alloc ?_ ?_ _) | (with_reducible refine Below.drew ?_) | (with_reducible refine below_drewN ?_ _) | (with_reducible refine Below.setCell ?_ ?_ _) | (with_reducible refine below_via ‹_› ?_ ?_) | (with_reducible refine below_grow ?_ ?_ _ _) | omega | (simp; done) | (simp; omega)))⟩
        case measure => simp [intOf]; omega
    · have HA := hid (hn.trans (str_all_end s plainCh k (by omega))); clear hn
      go_wp2
      all_goals
        go_ret
        exact ⟨ret_bool (by rw [HW.out, HA.out]; simp [inB]; omega), by (repeat' (first | (with_reducible exact Below.refl _ _) | (with_reducible refine Below.alloc ?_ ?_ _) | (with_reducible refine Below.drew ?_) | (with_reducible refine below_drewN ?_ _) | (with_reducible refine Below.setCell ?_ ?_ _) | (with_reducible refine below_via ‹_› ?_ ?_) | (with_reducible refine below_grow ?_ ?_ _ _) | omega | (simp; done) | (simp; omega)))⟩
theorem warnB_alt (n p f u x y r : Int) (s : ByteArray) : warnB n p f u x y r s = (inB n 1 9999 && inB p 1 3 && inB f 0 143999999 && inB u (f + 1) 143999999 && pointB x y && inB r 0 20000 && inB (s.size : Int) 1 60 && plainB s) := by
  cases hf : inB f 0 143999999
  · simp [warnB, warnH, hf]
  · rw [upper_in hf]; simp [warnB, warnH, hf, Bool.and_assoc]
set_option maxHeartbeats 1000000 in
theorem c_ValidWarning (n p f u x y r : Int) (s : ByteArray) (w : World) (hs : s.size ≤ maxLen) :
    Calls Try.prog 33 #[.agg #[.int .i64 n, .int .i64 p, .int .i64 f, .int .i64 u, .int .i64 x, .int .i64 y, .int .i64 r, .string s]] w fun e w' => e = .returned (.bool (warnB n p f u x y r s)) ∧ Below w.heap.size w w' := by
  have hs' := hs
  unfold maxLen at hs'
  cases hq1 : inB n 1 9999
  · go_enter Try.func33, Try.ntmps33
    go_wp2_with (first | (go_at_call 55; refine (c_isNumber _ _).mono ?_; rintro e w' ⟨rfl, rfl⟩) | (go_at_call 56; refine (c_within _ _ _ _).mono ?_; rintro e w' ⟨rfl, rfl⟩) | (go_at_call 57; refine (c_isTime _ _).mono ?_; rintro e w' ⟨rfl, rfl⟩) | (go_at_call 58; refine (c_ValidPoint _ _ _).mono ?_; rintro e w1 ⟨rfl, hb⟩; obtain ⟨hc, hf⟩ := bcell hb; have hz := hb.size; (try simp at hz); (try have hz0 : ∀ b, b < w.heap.size → b < w1.heap.size := fun b h => by omega); (try have hz1 : w.heap.size < w1.heap.size := by omega); (try have hz2 : w.heap.size + 1 < w1.heap.size := by omega); (try have hz3 : w.heap.size + 2 < w1.heap.size := by omega)) | (go_at_call 59; refine (c_isAway _ _).mono ?_; rintro e w' ⟨rfl, rfl⟩) | (go_at_call 60; refine (c_isPlain _ _ (by assumption)).mono ?_; rintro e w' ⟨rfl, rfl⟩))
    go_ret
    exact ⟨ret_bool (by rw [warnB_alt]; simp [*]), by (repeat' (first | (with_reducible exact Below.refl _ _) | (with_reducible refine Below.alloc ?_ ?_ _) | (with_reducible refine Below.drew ?_) | (with_reducible refine below_drewN ?_ _) | (with_reducible refine Below.setCell ?_ ?_ _) | (with_reducible refine below_via ‹_› ?_ ?_) | (with_reducible refine below_grow ?_ ?_ _ _) | omega | (simp; done) | (simp; omega)))⟩
  cases hq2 : inB p 1 3
  · go_enter Try.func33, Try.ntmps33
    go_wp2_with (first | (go_at_call 55; refine (c_isNumber _ _).mono ?_; rintro e w' ⟨rfl, rfl⟩) | (go_at_call 56; refine (c_within _ _ _ _).mono ?_; rintro e w' ⟨rfl, rfl⟩) | (go_at_call 57; refine (c_isTime _ _).mono ?_; rintro e w' ⟨rfl, rfl⟩) | (go_at_call 58; refine (c_ValidPoint _ _ _).mono ?_; rintro e w1 ⟨rfl, hb⟩; obtain ⟨hc, hf⟩ := bcell hb; have hz := hb.size; (try simp at hz); (try have hz0 : ∀ b, b < w.heap.size → b < w1.heap.size := fun b h => by omega); (try have hz1 : w.heap.size < w1.heap.size := by omega); (try have hz2 : w.heap.size + 1 < w1.heap.size := by omega); (try have hz3 : w.heap.size + 2 < w1.heap.size := by omega)) | (go_at_call 59; refine (c_isAway _ _).mono ?_; rintro e w' ⟨rfl, rfl⟩) | (go_at_call 60; refine (c_isPlain _ _ (by assumption)).mono ?_; rintro e w' ⟨rfl, rfl⟩))
    go_ret
    exact ⟨ret_bool (by rw [warnB_alt]; simp [*]), by (repeat' (first | (with_reducible exact Below.refl _ _) | (with_reducible refine Below.alloc ?_ ?_ _) | (with_reducible refine Below.drew ?_) | (with_reducible refine below_drewN ?_ _) | (with_reducible refine Below.setCell ?_ ?_ _) | (with_reducible refine below_via ‹_› ?_ ?_) | (with_reducible refine below_grow ?_ ?_ _ _) | omega | (simp; done) | (simp; omega)))⟩
  cases hq3 : inB f 0 143999999
  · go_enter Try.func33, Try.ntmps33
    go_wp2_with (first | (go_at_call 55; refine (c_isNumber _ _).mono ?_; rintro e w' ⟨rfl, rfl⟩) | (go_at_call 56; refine (c_within _ _ _ _).mono ?_; rintro e w' ⟨rfl, rfl⟩) | (go_at_call 57; refine (c_isTime _ _).mono ?_; rintro e w' ⟨rfl, rfl⟩) | (go_at_call 58; refine (c_ValidPoint _ _ _).mono ?_; rintro e w1 ⟨rfl, hb⟩; obtain ⟨hc, hf⟩ := bcell hb; have hz := hb.size; (try simp at hz); (try have hz0 : ∀ b, b < w.heap.size → b < w1.heap.size := fun b h => by omega); (try have hz1 : w.heap.size < w1.heap.size := by omega); (try have hz2 : w.heap.size + 1 < w1.heap.size := by omega); (try have hz3 : w.heap.size + 2 < w1.heap.size := by omega)) | (go_at_call 59; refine (c_isAway _ _).mono ?_; rintro e w' ⟨rfl, rfl⟩) | (go_at_call 60; refine (c_isPlain _ _ (by assumption)).mono ?_; rintro e w' ⟨rfl, rfl⟩))
    go_ret
    exact ⟨ret_bool (by rw [warnB_alt]; simp [*]), by (repeat' (first | (with_reducible exact Below.refl _ _) | (with_reducible refine Below.alloc ?_ ?_ _) | (with_reducible refine Below.drew ?_) | (with_reducible refine below_drewN ?_ _) | (with_reducible refine Below.setCell ?_ ?_ _) | (with_reducible refine below_via ‹_› ?_ ?_) | (with_reducible refine below_grow ?_ ?_ _ _) | omega | (simp; done) | (simp; omega)))⟩
  have e3 := inB_true hq3
  cases hq4 : inB u (f + 1) 143999999
  · go_enter Try.func33, Try.ntmps33
    go_wp2_with (first | (go_at_call 55; refine (c_isNumber _ _).mono ?_; rintro e w' ⟨rfl, rfl⟩) | (go_at_call 56; refine (c_within _ _ _ _).mono ?_; rintro e w' ⟨rfl, rfl⟩) | (go_at_call 57; refine (c_isTime _ _).mono ?_; rintro e w' ⟨rfl, rfl⟩) | (go_at_call 58; refine (c_ValidPoint _ _ _).mono ?_; rintro e w1 ⟨rfl, hb⟩; obtain ⟨hc, hf⟩ := bcell hb; have hz := hb.size; (try simp at hz); (try have hz0 : ∀ b, b < w.heap.size → b < w1.heap.size := fun b h => by omega); (try have hz1 : w.heap.size < w1.heap.size := by omega); (try have hz2 : w.heap.size + 1 < w1.heap.size := by omega); (try have hz3 : w.heap.size + 2 < w1.heap.size := by omega)) | (go_at_call 59; refine (c_isAway _ _).mono ?_; rintro e w' ⟨rfl, rfl⟩) | (go_at_call 60; refine (c_isPlain _ _ (by assumption)).mono ?_; rintro e w' ⟨rfl, rfl⟩))
    go_ret
    exact ⟨ret_bool (by rw [warnB_alt]; simp [*]), by (repeat' (first | (with_reducible exact Below.refl _ _) | (with_reducible refine Below.alloc ?_ ?_ _) | (with_reducible refine Below.drew ?_) | (with_reducible refine below_drewN ?_ _) | (with_reducible refine Below.setCell ?_ ?_ _) | (with_reducible refine below_via ‹_› ?_ ?_) | (with_reducible refine below_grow ?_ ?_ _ _) | omega | (simp; done) | (simp; omega)))⟩
  cases hq5 : pointB x y
  · go_enter Try.func33, Try.ntmps33
    go_wp2_with (first | (go_at_call 55; refine (c_isNumber _ _).mono ?_; rintro e w' ⟨rfl, rfl⟩) | (go_at_call 56; refine (c_within _ _ _ _).mono ?_; rintro e w' ⟨rfl, rfl⟩) | (go_at_call 57; refine (c_isTime _ _).mono ?_; rintro e w' ⟨rfl, rfl⟩) | (go_at_call 58; refine (c_ValidPoint _ _ _).mono ?_; rintro e w1 ⟨rfl, hb⟩; obtain ⟨hc, hf⟩ := bcell hb; have hz := hb.size; (try simp at hz); (try have hz0 : ∀ b, b < w.heap.size → b < w1.heap.size := fun b h => by omega); (try have hz1 : w.heap.size < w1.heap.size := by omega); (try have hz2 : w.heap.size + 1 < w1.heap.size := by omega); (try have hz3 : w.heap.size + 2 < w1.heap.size := by omega)) | (go_at_call 59; refine (c_isAway _ _).mono ?_; rintro e w' ⟨rfl, rfl⟩) | (go_at_call 60; refine (c_isPlain _ _ (by assumption)).mono ?_; rintro e w' ⟨rfl, rfl⟩))
    go_ret
    exact ⟨ret_bool (by rw [warnB_alt]; simp [*]), by (repeat' (first | (with_reducible exact Below.refl _ _) | (with_reducible refine Below.alloc ?_ ?_ _) | (with_reducible refine Below.drew ?_) | (with_reducible refine below_drewN ?_ _) | (with_reducible refine Below.setCell ?_ ?_ _) | (with_reducible refine below_via ‹_› ?_ ?_) | (with_reducible refine below_grow ?_ ?_ _ _) | omega | (simp; done) | (simp; omega)))⟩
  cases hq6 : inB r 0 20000
  · go_enter Try.func33, Try.ntmps33
    go_wp2_with (first | (go_at_call 55; refine (c_isNumber _ _).mono ?_; rintro e w' ⟨rfl, rfl⟩) | (go_at_call 56; refine (c_within _ _ _ _).mono ?_; rintro e w' ⟨rfl, rfl⟩) | (go_at_call 57; refine (c_isTime _ _).mono ?_; rintro e w' ⟨rfl, rfl⟩) | (go_at_call 58; refine (c_ValidPoint _ _ _).mono ?_; rintro e w1 ⟨rfl, hb⟩; obtain ⟨hc, hf⟩ := bcell hb; have hz := hb.size; (try simp at hz); (try have hz0 : ∀ b, b < w.heap.size → b < w1.heap.size := fun b h => by omega); (try have hz1 : w.heap.size < w1.heap.size := by omega); (try have hz2 : w.heap.size + 1 < w1.heap.size := by omega); (try have hz3 : w.heap.size + 2 < w1.heap.size := by omega)) | (go_at_call 59; refine (c_isAway _ _).mono ?_; rintro e w' ⟨rfl, rfl⟩) | (go_at_call 60; refine (c_isPlain _ _ (by assumption)).mono ?_; rintro e w' ⟨rfl, rfl⟩))
    go_ret
    exact ⟨ret_bool (by rw [warnB_alt]; simp [*]), by (repeat' (first | (with_reducible exact Below.refl _ _) | (with_reducible refine Below.alloc ?_ ?_ _) | (with_reducible refine Below.drew ?_) | (with_reducible refine below_drewN ?_ _) | (with_reducible refine Below.setCell ?_ ?_ _) | (with_reducible refine below_via ‹_› ?_ ?_) | (with_reducible refine below_grow ?_ ?_ _ _) | omega | (simp; done) | (simp; omega)))⟩
  cases hq7 : inB (s.size : Int) 1 60
  · go_enter Try.func33, Try.ntmps33
    go_wp2_with (first | (go_at_call 55; refine (c_isNumber _ _).mono ?_; rintro e w' ⟨rfl, rfl⟩) | (go_at_call 56; refine (c_within _ _ _ _).mono ?_; rintro e w' ⟨rfl, rfl⟩) | (go_at_call 57; refine (c_isTime _ _).mono ?_; rintro e w' ⟨rfl, rfl⟩) | (go_at_call 58; refine (c_ValidPoint _ _ _).mono ?_; rintro e w1 ⟨rfl, hb⟩; obtain ⟨hc, hf⟩ := bcell hb; have hz := hb.size; (try simp at hz); (try have hz0 : ∀ b, b < w.heap.size → b < w1.heap.size := fun b h => by omega); (try have hz1 : w.heap.size < w1.heap.size := by omega); (try have hz2 : w.heap.size + 1 < w1.heap.size := by omega); (try have hz3 : w.heap.size + 2 < w1.heap.size := by omega)) | (go_at_call 59; refine (c_isAway _ _).mono ?_; rintro e w' ⟨rfl, rfl⟩) | (go_at_call 60; refine (c_isPlain _ _ (by assumption)).mono ?_; rintro e w' ⟨rfl, rfl⟩))
    go_ret
    exact ⟨ret_bool (by rw [warnB_alt]; simp [*]), by (repeat' (first | (with_reducible exact Below.refl _ _) | (with_reducible refine Below.alloc ?_ ?_ _) | (with_reducible refine Below.drew ?_) | (with_reducible refine below_drewN ?_ _) | (with_reducible refine Below.setCell ?_ ?_ _) | (with_reducible refine below_via ‹_› ?_ ?_) | (with_reducible refine below_grow ?_ ?_ _ _) | omega | (simp; done) | (simp; omega)))⟩
  cases hq8 : plainB s
  · go_enter Try.func33, Try.ntmps33
    go_wp2_with (first | (go_at_call 55; refine (c_isNumber _ _).mono ?_; rintro e w' ⟨rfl, rfl⟩) | (go_at_call 56; refine (c_within _ _ _ _).mono ?_; rintro e w' ⟨rfl, rfl⟩) | (go_at_call 57; refine (c_isTime _ _).mono ?_; rintro e w' ⟨rfl, rfl⟩) | (go_at_call 58; refine (c_ValidPoint _ _ _).mono ?_; rintro e w1 ⟨rfl, hb⟩; obtain ⟨hc, hf⟩ := bcell hb; have hz := hb.size; (try simp at hz); (try have hz0 : ∀ b, b < w.heap.size → b < w1.heap.size := fun b h => by omega); (try have hz1 : w.heap.size < w1.heap.size := by omega); (try have hz2 : w.heap.size + 1 < w1.heap.size := by omega); (try have hz3 : w.heap.size + 2 < w1.heap.size := by omega)) | (go_at_call 59; refine (c_isAway _ _).mono ?_; rintro e w' ⟨rfl, rfl⟩) | (go_at_call 60; refine (c_isPlain _ _ (by assumption)).mono ?_; rintro e w' ⟨rfl, rfl⟩))
    go_ret
    exact ⟨ret_bool (by rw [warnB_alt]; simp [*]), by (repeat' (first | (with_reducible exact Below.refl _ _) | (with_reducible refine Below.alloc ?_ ?_ _) | (with_reducible refine Below.drew ?_) | (with_reducible refine below_drewN ?_ _) | (with_reducible refine Below.setCell ?_ ?_ _) | (with_reducible refine below_via ‹_› ?_ ?_) | (with_reducible refine below_grow ?_ ?_ _ _) | omega | (simp; done) | (simp; omega)))⟩
  go_enter Try.func33, Try.ntmps33
  go_wp2_with (first | (go_at_call 55; refine (c_isNumber _ _).mono ?_; rintro e w' ⟨rfl, rfl⟩) | (go_at_call 56; refine (c_within _ _ _ _).mono ?_; rintro e w' ⟨rfl, rfl⟩) | (go_at_call 57; refine (c_isTime _ _).mono ?_; rintro e w' ⟨rfl, rfl⟩) | (go_at_call 58; refine (c_ValidPoint _ _ _).mono ?_; rintro e w1 ⟨rfl, hb⟩; obtain ⟨hc, hf⟩ := bcell hb; have hz := hb.size; (try simp at hz); (try have hz0 : ∀ b, b < w.heap.size → b < w1.heap.size := fun b h => by omega); (try have hz1 : w.heap.size < w1.heap.size := by omega); (try have hz2 : w.heap.size + 1 < w1.heap.size := by omega); (try have hz3 : w.heap.size + 2 < w1.heap.size := by omega)) | (go_at_call 59; refine (c_isAway _ _).mono ?_; rintro e w' ⟨rfl, rfl⟩) | (go_at_call 60; refine (c_isPlain _ _ (by assumption)).mono ?_; rintro e w' ⟨rfl, rfl⟩))
  go_ret
  exact ⟨ret_bool (by rw [warnB_alt]; simp [*]), by (repeat' (first | (with_reducible exact Below.refl _ _) | (with_reducible refine Below.alloc ?_ ?_ _) | (with_reducible refine Below.drew ?_) | (with_reducible refine below_drewN ?_ _) | (with_reducible refine Below.setCell ?_ ?_ _) | (with_reducible refine below_via ‹_› ?_ ?_) | (with_reducible refine below_grow ?_ ?_ _ _) | omega | (simp; done) | (simp; omega)))⟩

/-! ### lists -/
def numAt (xs : List WarningD) (k : Nat) : Int := match xs[k]? with | some x => x.fNumber | none => 0
theorem numAt_get (xs : List WarningD) (k : Nat) (h : k < xs.length) : numAt xs k = xs[k].fNumber := by simp [numAt, h]
def stepN (xs : List WarningD) (k : Nat) : Bool := oneAt warnD xs k && (decide (k = 0) || decide (numAt xs (k - 1) < numAt xs k))
def warnsB (xs : List WarningD) : Bool := allB (stepN xs) xs.length && decide ((xs.length : Int) ≤ 32)
theorem stepN_zero (xs : List WarningD) (h : 0 < xs.length) : stepN xs 0 = warnD xs[0] := by simp [stepN, oneAt_get warnD xs 0 h]
theorem stepN_pos (xs : List WarningD) (k : Nat) (h : k < xs.length) (h0 : 0 < k) : stepN xs k = (warnD xs[k] && decide (xs[k - 1].fNumber < xs[k].fNumber)) := by
  simp [stepN, oneAt_get warnD xs k h, numAt_get xs k h, numAt_get xs (k - 1) (by omega), show k ≠ 0 by omega]
set_option maxHeartbeats 2000000 in
theorem c_l22Ok (v : Value) (xs : List WarningD) (w : World) (h : SlA w 0 8 encWarning v xs) (hok : ∀ x ∈ xs, okWarning x) :
    Calls Try.prog 29 #[v] w fun e w' => e = .returned (.bool (warnsB xs)) ∧ Below w.heap.size w w' := by
  obtain ⟨ad, cap, b, off, rfl, hm, had, hx⟩ := h.uni
  go_enter Try.func29, Try.ntmps29
  go_wp2
  go_loopw [3] (fun i wr => ∃ k : Nat, k ≤ xs.length ∧ i = .int .i64 k ∧ (∀ i, i < k → stepN xs i = true) ∧ Below w.heap.size w wr) (fun i _ => xs.length - (intOf i).toNat)
  case atStart => exact ⟨0, Nat.zero_le _, rfl, fun i hi => by omega, by (repeat' (first | (with_reducible exact Below.refl _ _) | (with_reducible refine Below.alloc ?_ ?_ _) | (with_reducible refine Below.drew ?_) | (with_reducible refine below_drewN ?_ _) | (with_reducible refine Below.setCell ?_ ?_ _) | (with_reducible refine below_via ‹_› ?_ ?_) | (with_reducible refine below_grow ?_ ?_ _ _) | omega | (simp; done) | (simp; omega)))⟩
  case round =>
    obtain ⟨k, hk, rfl, ha, hB⟩ := hrel
    have HA := hid ha; clear ha
    have hzr := hB.size
    by_cases hlt : k < xs.length
    · have hlI : (k : Int) < xs.length := by omega
      obtain ⟨rfl, hbb, -, hcc, hmc⟩ := had (by omega)
      have hbr : b < wr.heap.size := by omega
      have g0 := (hB.cell (p := ⟨b, off + k * 8 + 0, none⟩) hbb).trans (hx k hlt 0 (by omega))
      have g1 := (hB.cell (p := ⟨b, off + k * 8 + 1, none⟩) hbb).trans (hx k hlt 1 (by omega))
      have g2 := (hB.cell (p := ⟨b, off + k * 8 + 2, none⟩) hbb).trans (hx k hlt 2 (by omega))
      have g3 := (hB.cell (p := ⟨b, off + k * 8 + 3, none⟩) hbb).trans (hx k hlt 3 (by omega))
      have g4 := (hB.cell (p := ⟨b, off + k * 8 + 4, none⟩) hbb).trans (hx k hlt 4 (by omega))
      have g5 := (hB.cell (p := ⟨b, off + k * 8 + 5, none⟩) hbb).trans (hx k hlt 5 (by omega))
      have g6 := (hB.cell (p := ⟨b, off + k * 8 + 6, none⟩) hbb).trans (hx k hlt 6 (by omega))
      have g7 := (hB.cell (p := ⟨b, off + k * 8 + 7, none⟩) hbb).trans (hx k hlt 7 (by omega))
      simp only [encWarning, List.getD_cons_zero, List.getD_cons_succ, Nat.add_zero] at g0 g1 g2 g3 g4 g5 g6 g7
      have o1 : xs[k].fWords.size ≤ maxLen := (hok xs[k] (List.getElem_mem hlt)).2.2.2.2.2.2.2
      by_cases hk0 : k = 0
      · subst hk0
        have HS := hid (stepN_zero xs hlt)
        simp only [Nat.zero_mul, Nat.add_zero] at g0 g1 g2 g3 g4 g5 g6 g7
        clear hx
        have r0 := cellr g0
        have r1 := cellr g1
        have r2 := cellr g2
        have r3 := cellr g3
        have r4 := cellr g4
        have r5 := cellr g5
        have r6 := cellr g6
        have r7 := cellr g7
        cases hq1 : warnB xs[0].fNumber xs[0].fPriority xs[0].fFrom xs[0].fUntil xs[0].fAtX xs[0].fAtY xs[0].fRadius xs[0].fWords
        · go_wp2
          (refine wp_region_quiet_below (by kernel_rfl) (by kernel_rfl) ?_; (repeat (first | go_big_quiet_step ((first | (go_at_call 30; exact regrown_bool (c_l22One _ _ xs[0].fNumber xs[0].fPriority xs[0].fFrom xs[0].fUntil xs[0].fAtX xs[0].fAtY xs[0].fRadius xs[0].fWords _ (lt_regrown hbr _ _) o1 (r0 _ _) (r1 _ _) (r2 _ _) (r3 _ _) (r4 _ _) (r5 _ _) (r6 _ _) (r7 _ _)) (by assumption)))) | quiet_step ((first | (go_at_call 30; exact regrown_bool (c_l22One _ _ xs[0].fNumber xs[0].fPriority xs[0].fFrom xs[0].fUntil xs[0].fAtX xs[0].fAtY xs[0].fRadius xs[0].fWords _ (lt_regrown hbr _ _) o1 (r0 _ _) (r1 _ _) (r2 _ _) (r3 _ _) (r4 _ _) (r5 _ _) (r6 _ _) (r7 _ _)) (by assumption)))))); refine wpQuiet_nil ?_; intro w1 hw'; have hb := below_of_regrown hw'; clear hw'; obtain ⟨hc, hf⟩ := bcell hb; have hz := hb.size; (try simp at hz); (try have hz0 : ∀ b, b < w.heap.size → b < w1.heap.size := fun b h => by omega); (try have hz1 : w.heap.size < w1.heap.size := by omega); (try have hz2 : w.heap.size + 1 < w1.heap.size := by omega); (try have hz3 : w.heap.size + 2 < w1.heap.size := by omega))
          go_wp2
          first
            | (go_ret; exact ⟨ret_bool (by rw [warnsB, allB_false (k := 0) (by rw [HS.out]; exact hq1) hlt]; rfl), by (repeat' (first | (with_reducible exact Below.refl _ _) | (with_reducible refine Below.alloc ?_ ?_ _) | (with_reducible refine Below.drew ?_) | (with_reducible refine below_drewN ?_ _) | (with_reducible refine Below.setCell ?_ ?_ _) | (with_reducible refine below_via ‹_› ?_ ?_) | (with_reducible refine below_grow ?_ ?_ _ _) | omega | (simp; done) | (simp; omega)))⟩)
            | (go_roundw
               case rel => exact ⟨1, by omega, rfl, all_one (by rw [HS.out]; exact hq1), by (repeat' (first | (with_reducible exact Below.refl _ _) | (with_reducible refine Below.alloc ?_ ?_ _) | (with_reducible refine Below.drew ?_) | (with_reducible refine below_drewN ?_ _) | (with_reducible refine Below.setCell ?_ ?_ _) | (with_reducible refine below_via ‹_› ?_ ?_) | (with_reducible refine below_grow ?_ ?_ _ _) | omega | (simp; done) | (simp; omega)))⟩
               case measure => simp [intOf]; omega)
        go_wp2
        (refine wp_region_quiet_below (by kernel_rfl) (by kernel_rfl) ?_; (repeat (first | go_big_quiet_step ((first | (go_at_call 30; exact regrown_bool (c_l22One _ _ xs[0].fNumber xs[0].fPriority xs[0].fFrom xs[0].fUntil xs[0].fAtX xs[0].fAtY xs[0].fRadius xs[0].fWords _ (lt_regrown hbr _ _) o1 (r0 _ _) (r1 _ _) (r2 _ _) (r3 _ _) (r4 _ _) (r5 _ _) (r6 _ _) (r7 _ _)) (by assumption)))) | quiet_step ((first | (go_at_call 30; exact regrown_bool (c_l22One _ _ xs[0].fNumber xs[0].fPriority xs[0].fFrom xs[0].fUntil xs[0].fAtX xs[0].fAtY xs[0].fRadius xs[0].fWords _ (lt_regrown hbr _ _) o1 (r0 _ _) (r1 _ _) (r2 _ _) (r3 _ _) (r4 _ _) (r5 _ _) (r6 _ _) (r7 _ _)) (by assumption)))))); refine wpQuiet_nil ?_; intro w1 hw'; have hb := below_of_regrown hw'; clear hw'; obtain ⟨hc, hf⟩ := bcell hb; have hz := hb.size; (try simp at hz); (try have hz0 : ∀ b, b < w.heap.size → b < w1.heap.size := fun b h => by omega); (try have hz1 : w.heap.size < w1.heap.size := by omega); (try have hz2 : w.heap.size + 1 < w1.heap.size := by omega); (try have hz3 : w.heap.size + 2 < w1.heap.size := by omega))
        go_wp2
        first
          | (go_ret; exact ⟨ret_bool (by rw [warnsB, allB_false (k := 0) (by rw [HS.out]; exact hq1) hlt]; rfl), by (repeat' (first | (with_reducible exact Below.refl _ _) | (with_reducible refine Below.alloc ?_ ?_ _) | (with_reducible refine Below.drew ?_) | (with_reducible refine below_drewN ?_ _) | (with_reducible refine Below.setCell ?_ ?_ _) | (with_reducible refine below_via ‹_› ?_ ?_) | (with_reducible refine below_grow ?_ ?_ _ _) | omega | (simp; done) | (simp; omega)))⟩)
          | (go_roundw
             case rel => exact ⟨1, by omega, rfl, all_one (by rw [HS.out]; exact hq1), by (repeat' (first | (with_reducible exact Below.refl _ _) | (with_reducible refine Below.alloc ?_ ?_ _) | (with_reducible refine Below.drew ?_) | (with_reducible refine below_drewN ?_ _) | (with_reducible refine Below.setCell ?_ ?_ _) | (with_reducible refine below_via ‹_› ?_ ?_) | (with_reducible refine below_grow ?_ ?_ _ _) | omega | (simp; done) | (simp; omega)))⟩
             case measure => simp [intOf]; omega)
      · have hkI : (0 : Int) < k := by omega
        have hkd : decide (0 < k) = true := by simp; omega
        have hk1 : (1 : Int) ≤ k := by omega
        have hk2 : (k : Int) - 1 < xs.length := by omega
        have hkn := pred_nat (k := k) (by omega)
        have hkw := pred_wrap (k := k) (n := xs.length) (by omega) (by omega) hm
        have HS := hid (stepN_pos xs k hlt (by omega))
        have p0 := (hB.cell (p := ⟨b, off + (k - 1) * 8 + 0, none⟩) hbb).trans (hx (k - 1) (by omega) 0 (by omega))
        simp only [encWarning, List.getD_cons_zero, Nat.add_zero] at p0
        clear hx
        have r0 := cellr g0
        have r1 := cellr g1
        have r2 := cellr g2
        have r3 := cellr g3
        have r4 := cellr g4
        have r5 := cellr g5
        have r6 := cellr g6
        have r7 := cellr g7
        have r8 := cellr p0
        cases hq1 : warnB xs[k].fNumber xs[k].fPriority xs[k].fFrom xs[k].fUntil xs[k].fAtX xs[k].fAtY xs[k].fRadius xs[k].fWords
        · (try have hd : decide (xs[k].fNumber ≤ xs[k - 1].fNumber) = true := decide_eq_true (Int.not_lt.mp (of_decide_eq_false hq2)))
          (try have hd : decide (xs[k].fNumber ≤ xs[k - 1].fNumber) = false := decide_eq_false (Int.not_le.mpr (of_decide_eq_true hq2)))
          go_wp2
          (refine wp_region_quiet_below (by kernel_rfl) (by kernel_rfl) ?_; (repeat (first | go_big_quiet_step ((first | (go_at_call 30; exact regrown_bool (c_l22One _ _ xs[k].fNumber xs[k].fPriority xs[k].fFrom xs[k].fUntil xs[k].fAtX xs[k].fAtY xs[k].fRadius xs[k].fWords _ (lt_regrown hbr _ _) o1 (r0 _ _) (r1 _ _) (r2 _ _) (r3 _ _) (r4 _ _) (r5 _ _) (r6 _ _) (r7 _ _)) (by assumption)))) | quiet_step ((first | (go_at_call 30; exact regrown_bool (c_l22One _ _ xs[k].fNumber xs[k].fPriority xs[k].fFrom xs[k].fUntil xs[k].fAtX xs[k].fAtY xs[k].fRadius xs[k].fWords _ (lt_regrown hbr _ _) o1 (r0 _ _) (r1 _ _) (r2 _ _) (r3 _ _) (r4 _ _) (r5 _ _) (r6 _ _) (r7 _ _)) (by assumption)))))); refine wpQuiet_nil ?_; intro w1 hw'; have hb := below_of_regrown hw'; clear hw'; obtain ⟨hc, hf⟩ := bcell hb; have hz := hb.size; (try simp at hz); (try have hz0 : ∀ b, b < w.heap.size → b < w1.heap.size := fun b h => by omega); (try have hz1 : w.heap.size < w1.heap.size := by omega); (try have hz2 : w.heap.size + 1 < w1.heap.size := by omega); (try have hz3 : w.heap.size + 2 < w1.heap.size := by omega))
          go_wp2
          first
            | (go_ret; exact ⟨ret_bool (by rw [warnsB, allB_false (k := k) (by rw [HS.out]; simp [warnD, *]) hlt]; rfl), by (repeat' (first | (with_reducible exact Below.refl _ _) | (with_reducible refine Below.alloc ?_ ?_ _) | (with_reducible refine Below.drew ?_) | (with_reducible refine below_drewN ?_ _) | (with_reducible refine Below.setCell ?_ ?_ _) | (with_reducible refine below_via ‹_› ?_ ?_) | (with_reducible refine below_grow ?_ ?_ _ _) | omega | (simp; done) | (simp; omega)))⟩)
            | (go_roundw
               case rel => exact ⟨k + 1, by omega, by go_num, all_snoc HA.out (by rw [HS.out]; simp [warnD, *]), by (repeat' (first | (with_reducible exact Below.refl _ _) | (with_reducible refine Below.alloc ?_ ?_ _) | (with_reducible refine Below.drew ?_) | (with_reducible refine below_drewN ?_ _) | (with_reducible refine Below.setCell ?_ ?_ _) | (with_reducible refine below_via ‹_› ?_ ?_) | (with_reducible refine below_grow ?_ ?_ _ _) | omega | (simp; done) | (simp; omega)))⟩
               case measure => simp [intOf]; omega)
        cases hq2 : decide (xs[k - 1].fNumber < xs[k].fNumber)
        · (try have hd : decide (xs[k].fNumber ≤ xs[k - 1].fNumber) = true := decide_eq_true (Int.not_lt.mp (of_decide_eq_false hq2)))
          (try have hd : decide (xs[k].fNumber ≤ xs[k - 1].fNumber) = false := decide_eq_false (Int.not_le.mpr (of_decide_eq_true hq2)))
          go_wp2
          (refine wp_region_quiet_below (by kernel_rfl) (by kernel_rfl) ?_; (repeat (first | go_big_quiet_step ((first | (go_at_call 30; exact regrown_bool (c_l22One _ _ xs[k].fNumber xs[k].fPriority xs[k].fFrom xs[k].fUntil xs[k].fAtX xs[k].fAtY xs[k].fRadius xs[k].fWords _ (lt_regrown hbr _ _) o1 (r0 _ _) (r1 _ _) (r2 _ _) (r3 _ _) (r4 _ _) (r5 _ _) (r6 _ _) (r7 _ _)) (by assumption)))) | quiet_step ((first | (go_at_call 30; exact regrown_bool (c_l22One _ _ xs[k].fNumber xs[k].fPriority xs[k].fFrom xs[k].fUntil xs[k].fAtX xs[k].fAtY xs[k].fRadius xs[k].fWords _ (lt_regrown hbr _ _) o1 (r0 _ _) (r1 _ _) (r2 _ _) (r3 _ _) (r4 _ _) (r5 _ _) (r6 _ _) (r7 _ _)) (by assumption)))))); refine wpQuiet_nil ?_; intro w1 hw'; have hb := below_of_regrown hw'; clear hw'; obtain ⟨hc, hf⟩ := bcell hb; have hz := hb.size; (try simp at hz); (try have hz0 : ∀ b, b < w.heap.size → b < w1.heap.size := fun b h => by omega); (try have hz1 : w.heap.size < w1.heap.size := by omega); (try have hz2 : w.heap.size + 1 < w1.heap.size := by omega); (try have hz3 : w.heap.size + 2 < w1.heap.size := by omega))
          go_wp2
          first
            | (go_ret; exact ⟨ret_bool (by rw [warnsB, allB_false (k := k) (by rw [HS.out]; simp [warnD, *]) hlt]; rfl), by (repeat' (first | (with_reducible exact Below.refl _ _) | (with_reducible refine Below.alloc ?_ ?_ _) | (with_reducible refine Below.drew ?_) | (with_reducible refine below_drewN ?_ _) | (with_reducible refine Below.setCell ?_ ?_ _) | (with_reducible refine below_via ‹_› ?_ ?_) | (with_reducible refine below_grow ?_ ?_ _ _) | omega | (simp; done) | (simp; omega)))⟩)
            | (go_roundw
               case rel => exact ⟨k + 1, by omega, by go_num, all_snoc HA.out (by rw [HS.out]; simp [warnD, *]), by (repeat' (first | (with_reducible exact Below.refl _ _) | (with_reducible refine Below.alloc ?_ ?_ _) | (with_reducible refine Below.drew ?_) | (with_reducible refine below_drewN ?_ _) | (with_reducible refine Below.setCell ?_ ?_ _) | (with_reducible refine below_via ‹_› ?_ ?_) | (with_reducible refine below_grow ?_ ?_ _ _) | omega | (simp; done) | (simp; omega)))⟩
               case measure => simp [intOf]; omega)
        (try have hd : decide (xs[k].fNumber ≤ xs[k - 1].fNumber) = true := decide_eq_true (Int.not_lt.mp (of_decide_eq_false hq2)))
        (try have hd : decide (xs[k].fNumber ≤ xs[k - 1].fNumber) = false := decide_eq_false (Int.not_le.mpr (of_decide_eq_true hq2)))
        go_wp2
        (refine wp_region_quiet_below (by kernel_rfl) (by kernel_rfl) ?_; (repeat (first | go_big_quiet_step ((first | (go_at_call 30; exact regrown_bool (c_l22One _ _ xs[k].fNumber xs[k].fPriority xs[k].fFrom xs[k].fUntil xs[k].fAtX xs[k].fAtY xs[k].fRadius xs[k].fWords _ (lt_regrown hbr _ _) o1 (r0 _ _) (r1 _ _) (r2 _ _) (r3 _ _) (r4 _ _) (r5 _ _) (r6 _ _) (r7 _ _)) (by assumption)))) | quiet_step ((first | (go_at_call 30; exact regrown_bool (c_l22One _ _ xs[k].fNumber xs[k].fPriority xs[k].fFrom xs[k].fUntil xs[k].fAtX xs[k].fAtY xs[k].fRadius xs[k].fWords _ (lt_regrown hbr _ _) o1 (r0 _ _) (r1 _ _) (r2 _ _) (r3 _ _) (r4 _ _) (r5 _ _) (r6 _ _) (r7 _ _)) (by assumption)))))); refine wpQuiet_nil ?_; intro w1 hw'; have hb := below_of_regrown hw'; clear hw'; obtain ⟨hc, hf⟩ := bcell hb; have hz := hb.size; (try simp at hz); (try have hz0 : ∀ b, b < w.heap.size → b < w1.heap.size := fun b h => by omega); (try have hz1 : w.heap.size < w1.heap.size := by omega); (try have hz2 : w.heap.size + 1 < w1.heap.size := by omega); (try have hz3 : w.heap.size + 2 < w1.heap.size := by omega))
        go_wp2
        first
          | (go_ret; exact ⟨ret_bool (by rw [warnsB, allB_false (k := k) (by rw [HS.out]; simp [warnD, *]) hlt]; rfl), by (repeat' (first | (with_reducible exact Below.refl _ _) | (with_reducible refine Below.alloc ?_ ?_ _) | (with_reducible refine Below.drew ?_) | (with_reducible refine below_drewN ?_ _) | (with_reducible refine Below.setCell ?_ ?_ _) | (with_reducible refine below_via ‹_› ?_ ?_) | (with_reducible refine below_grow ?_ ?_ _ _) | omega | (simp; done) | (simp; omega)))⟩)
          | (go_roundw
             case rel => exact ⟨k + 1, by omega, by go_num, all_snoc HA.out (by rw [HS.out]; simp [warnD, *]), by (repeat' (first | (with_reducible exact Below.refl _ _) | (with_reducible refine Below.alloc ?_ ?_ _) | (with_reducible refine Below.drew ?_) | (with_reducible refine below_drewN ?_ _) | (with_reducible refine Below.setCell ?_ ?_ _) | (with_reducible refine below_via ‹_› ?_ ?_) | (with_reducible refine below_grow ?_ ?_ _ _) | omega | (simp; done) | (simp; omega)))⟩
             case measure => simp [intOf]; omega)
    · have HR := hid (show warnsB xs = decide ((xs.length : Int) ≤ 32) by rw [warnsB, allB_true (fun i hi => HA.out i (by omega))]; rfl)
      clear hx
      go_wp2
      go_ret
      exact ⟨ret_bool HR.out.symm, by (repeat' (first | (with_reducible exact Below.refl _ _) | (with_reducible refine Below.alloc ?_ ?_ _) | (with_reducible refine Below.drew ?_) | (with_reducible refine below_drewN ?_ _) | (with_reducible refine Below.setCell ?_ ?_ _) | (with_reducible refine below_via ‹_› ?_ ?_) | (with_reducible refine below_grow ?_ ?_ _ _) | omega | (simp; done) | (simp; omega)))⟩
set_option maxHeartbeats 2000000 in
theorem c_ValidWarnings (v : Value) (xs : List WarningD) (w : World) (h : SlA w 0 8 encWarning v xs) (hok : ∀ x ∈ xs, okWarning x) :
    Calls Try.prog 32 #[v] w fun e w' => e = .returned (.bool (warnsB xs)) ∧ Below w.heap.size w w' := by
  obtain ⟨ad, cap, b, off, rfl, hm, had, hx⟩ := h.uni
  go_enter Try.func32, Try.ntmps32
  go_wp2
  go_loopw [7] (fun i wr => ∃ k : Nat, k ≤ xs.length ∧ i = .int .i64 k ∧ (∀ i, i < k → stepN xs i = true) ∧ Below w.heap.size w wr) (fun i _ => xs.length - (intOf i).toNat)
  case atStart => exact ⟨0, Nat.zero_le _, rfl, fun i hi => by omega, by (repeat' (first | (with_reducible exact Below.refl _ _) | (with_reducible refine Below.alloc ?_ ?_ _) | (with_reducible refine Below.drew ?_) | (with_reducible refine below_drewN ?_ _) | (with_reducible refine Below.setCell ?_ ?_ _) | (with_reducible refine below_via ‹_› ?_ ?_) | (with_reducible refine below_grow ?_ ?_ _ _) | omega | (simp; done) | (simp; omega)))⟩
  case round =>
    obtain ⟨k, hk, rfl, ha, hB⟩ := hrel
    have HA := hid ha; clear ha
    have hzr := hB.size
    by_cases hlt : k < xs.length
    · have hlI : (k : Int) < xs.length := by omega
      obtain ⟨rfl, hbb, -, hcc, hmc⟩ := had (by omega)
      have hbr : b < wr.heap.size := by omega
      have g0 := (hB.cell (p := ⟨b, off + k * 8 + 0, none⟩) hbb).trans (hx k hlt 0 (by omega))
      have g1 := (hB.cell (p := ⟨b, off + k * 8 + 1, none⟩) hbb).trans (hx k hlt 1 (by omega))
      have g2 := (hB.cell (p := ⟨b, off + k * 8 + 2, none⟩) hbb).trans (hx k hlt 2 (by omega))
      have g3 := (hB.cell (p := ⟨b, off + k * 8 + 3, none⟩) hbb).trans (hx k hlt 3 (by omega))
      have g4 := (hB.cell (p := ⟨b, off + k * 8 + 4, none⟩) hbb).trans (hx k hlt 4 (by omega))
      have g5 := (hB.cell (p := ⟨b, off + k * 8 + 5, none⟩) hbb).trans (hx k hlt 5 (by omega))
      have g6 := (hB.cell (p := ⟨b, off + k * 8 + 6, none⟩) hbb).trans (hx k hlt 6 (by omega))
      have g7 := (hB.cell (p := ⟨b, off + k * 8 + 7, none⟩) hbb).trans (hx k hlt 7 (by omega))
      simp only [encWarning, List.getD_cons_zero, List.getD_cons_succ, Nat.add_zero] at g0 g1 g2 g3 g4 g5 g6 g7
      have o1 : xs[k].fWords.size ≤ maxLen := (hok xs[k] (List.getElem_mem hlt)).2.2.2.2.2.2.2
      by_cases hk0 : k = 0
      · subst hk0
        have HS := hid (stepN_zero xs hlt)
        simp only [Nat.zero_mul, Nat.add_zero] at g0 g1 g2 g3 g4 g5 g6 g7
        clear hx
        go_wp2
        obtain ⟨w1, hw1⟩ : ∃ x, x = wr.alloc (Obj.cells #[.int .i64 xs[0].fNumber, .int .i64 xs[0].fPriority, .int .i64 xs[0].fFrom, .int .i64 xs[0].fUntil, .int .i64 xs[0].fAtX, .int .i64 xs[0].fAtY, .int .i64 xs[0].fRadius, .string xs[0].fWords] 35) := ⟨_, rfl⟩
        rw [← hw1]
        have r0 := cellr (show w1.cell? ⟨wr.heap.size, 0, none⟩ = some (.int .i64 xs[0].fNumber) by rw [hw1]; simp [go_sem])
        have r1 := cellr (show w1.cell? ⟨wr.heap.size, 1, none⟩ = some (.int .i64 xs[0].fPriority) by rw [hw1]; simp [go_sem])
        have r2 := cellr (show w1.cell? ⟨wr.heap.size, 2, none⟩ = some (.int .i64 xs[0].fFrom) by rw [hw1]; simp [go_sem])
        have r3 := cellr (show w1.cell? ⟨wr.heap.size, 3, none⟩ = some (.int .i64 xs[0].fUntil) by rw [hw1]; simp [go_sem])
        have r4 := cellr (show w1.cell? ⟨wr.heap.size, 4, none⟩ = some (.int .i64 xs[0].fAtX) by rw [hw1]; simp [go_sem])
        have r5 := cellr (show w1.cell? ⟨wr.heap.size, 5, none⟩ = some (.int .i64 xs[0].fAtY) by rw [hw1]; simp [go_sem])
        have r6 := cellr (show w1.cell? ⟨wr.heap.size, 6, none⟩ = some (.int .i64 xs[0].fRadius) by rw [hw1]; simp [go_sem])
        have r7 := cellr (show w1.cell? ⟨wr.heap.size, 7, none⟩ = some (.string xs[0].fWords) by rw [hw1]; simp [go_sem])
        have hB1 : Below w.heap.size w w1 := hw1 ▸ (by (repeat' (first | (with_reducible exact Below.refl _ _) | (with_reducible refine Below.alloc ?_ ?_ _) | (with_reducible refine Below.drew ?_) | (with_reducible refine below_drewN ?_ _) | (with_reducible refine Below.setCell ?_ ?_ _) | (with_reducible refine below_via ‹_› ?_ ?_) | (with_reducible refine below_grow ?_ ?_ _ _) | omega | (simp; done) | (simp; omega))))
        have hz1 := hB1.size
        clear hw1
        cases hq1 : warnB xs[0].fNumber xs[0].fPriority xs[0].fFrom xs[0].fUntil xs[0].fAtX xs[0].fAtY xs[0].fRadius xs[0].fWords
        · (refine wp_region_quiet_below (by kernel_rfl) (by kernel_rfl) ?_; (repeat (first | go_big_quiet_step ((first | (go_at_call 33; exact regrown_bool (c_ValidWarning xs[0].fNumber xs[0].fPriority xs[0].fFrom xs[0].fUntil xs[0].fAtX xs[0].fAtY xs[0].fRadius xs[0].fWords _ o1) (by assumption)))) | quiet_step ((first | (go_at_call 33; exact regrown_bool (c_ValidWarning xs[0].fNumber xs[0].fPriority xs[0].fFrom xs[0].fUntil xs[0].fAtX xs[0].fAtY xs[0].fRadius xs[0].fWords _ o1) (by assumption)))))); refine wpQuiet_nil ?_; intro w1 hw'; have hb := below_of_regrown hw'; clear hw'; obtain ⟨hc, hf⟩ := bcell hb; have hz := hb.size; (try simp at hz); (try have hz0 : ∀ b, b < w.heap.size → b < w1.heap.size := fun b h => by omega); (try have hz1 : w.heap.size < w1.heap.size := by omega); (try have hz2 : w.heap.size + 1 < w1.heap.size := by omega); (try have hz3 : w.heap.size + 2 < w1.heap.size := by omega))
          go_wp2
          first
            | (go_ret; exact ⟨ret_bool (by rw [warnsB, allB_false (k := 0) (by rw [HS.out]; exact hq1) hlt]; rfl), by (repeat' (first | (with_reducible exact Below.refl _ _) | (with_reducible refine Below.alloc ?_ ?_ _) | (with_reducible refine Below.drew ?_) | (with_reducible refine below_drewN ?_ _) | (with_reducible refine Below.setCell ?_ ?_ _) | (with_reducible refine below_via ‹_› ?_ ?_) | (with_reducible refine below_grow ?_ ?_ _ _) | omega | (simp; done) | (simp; omega)))⟩)
            | (go_roundw
               case rel => exact ⟨1, by omega, rfl, all_one (by rw [HS.out]; exact hq1), by (repeat' (first | (with_reducible exact Below.refl _ _) | (with_reducible refine Below.alloc ?_ ?_ _) | (with_reducible refine Below.drew ?_) | (with_reducible refine below_drewN ?_ _) | (with_reducible refine Below.setCell ?_ ?_ _) | (with_reducible refine below_via ‹_› ?_ ?_) | (with_reducible refine below_grow ?_ ?_ _ _) | omega | (simp; done) | (simp; omega)))⟩
               case measure => simp [intOf]; omega)
        (refine wp_region_quiet_below (by kernel_rfl) (by kernel_rfl) ?_; (repeat (first | go_big_quiet_step ((first | (go_at_call 33; exact regrown_bool (c_ValidWarning xs[0].fNumber xs[0].fPriority xs[0].fFrom xs[0].fUntil xs[0].fAtX xs[0].fAtY xs[0].fRadius xs[0].fWords _ o1) (by assumption)))) | quiet_step ((first | (go_at_call 33; exact regrown_bool (c_ValidWarning xs[0].fNumber xs[0].fPriority xs[0].fFrom xs[0].fUntil xs[0].fAtX xs[0].fAtY xs[0].fRadius xs[0].fWords _ o1) (by assumption)))))); refine wpQuiet_nil ?_; intro w1 hw'; have hb := below_of_regrown hw'; clear hw'; obtain ⟨hc, hf⟩ := bcell hb; have hz := hb.size; (try simp at hz); (try have hz0 : ∀ b, b < w.heap.size → b < w1.heap.size := fun b h => by omega); (try have hz1 : w.heap.size < w1.heap.size := by omega); (try have hz2 : w.heap.size + 1 < w1.heap.size := by omega); (try have hz3 : w.heap.size + 2 < w1.heap.size := by omega))
        go_wp2
        first
          | (go_ret; exact ⟨ret_bool (by rw [warnsB, allB_false (k := 0) (by rw [HS.out]; exact hq1) hlt]; rfl), by (repeat' (first | (with_reducible exact Below.refl _ _) | (with_reducible refine Below.alloc ?_ ?_ _) | (with_reducible refine Below.drew ?_) | (with_reducible refine below_drewN ?_ _) | (with_reducible refine Below.setCell ?_ ?_ _) | (with_reducible refine below_via ‹_› ?_ ?_) | (with_reducible refine below_grow ?_ ?_ _ _) | omega | (simp; done) | (simp; omega)))⟩)
          | (go_roundw
             case rel => exact ⟨1, by omega, rfl, all_one (by rw [HS.out]; exact hq1), by (repeat' (first | (with_reducible exact Below.refl _ _) | (with_reducible refine Below.alloc ?_ ?_ _) | (with_reducible refine Below.drew ?_) | (with_reducible refine below_drewN ?_ _) | (with_reducible refine Below.setCell ?_ ?_ _) | (with_reducible refine below_via ‹_› ?_ ?_) | (with_reducible refine below_grow ?_ ?_ _ _) | omega | (simp; done) | (simp; omega)))⟩
             case measure => simp [intOf]; omega)
      · have hkI : (0 : Int) < k := by omega
        have hkd : decide (0 < k) = true := by simp; omega
        have hk1 : (1 : Int) ≤ k := by omega
        have hk2 : (k : Int) - 1 < xs.length := by omega
        have hkn := pred_nat (k := k) (by omega)
        have hkw := pred_wrap (k := k) (n := xs.length) (by omega) (by omega) hm
        have HS := hid (stepN_pos xs k hlt (by omega))
        have p0 := (hB.cell (p := ⟨b, off + (k - 1) * 8 + 0, none⟩) hbb).trans (hx (k - 1) (by omega) 0 (by omega))
        simp only [encWarning, List.getD_cons_zero, Nat.add_zero] at p0
        clear hx
        go_wp2
        obtain ⟨w1, hw1⟩ : ∃ x, x = wr.alloc (Obj.cells #[.int .i64 xs[k].fNumber, .int .i64 xs[k].fPriority, .int .i64 xs[k].fFrom, .int .i64 xs[k].fUntil, .int .i64 xs[k].fAtX, .int .i64 xs[k].fAtY, .int .i64 xs[k].fRadius, .string xs[k].fWords] 35) := ⟨_, rfl⟩
        rw [← hw1]
        have r0 := cellr (show w1.cell? ⟨wr.heap.size, 0, none⟩ = some (.int .i64 xs[k].fNumber) by rw [hw1]; simp [go_sem])
        have r1 := cellr (show w1.cell? ⟨wr.heap.size, 1, none⟩ = some (.int .i64 xs[k].fPriority) by rw [hw1]; simp [go_sem])
        have r2 := cellr (show w1.cell? ⟨wr.heap.size, 2, none⟩ = some (.int .i64 xs[k].fFrom) by rw [hw1]; simp [go_sem])
        have r3 := cellr (show w1.cell? ⟨wr.heap.size, 3, none⟩ = some (.int .i64 xs[k].fUntil) by rw [hw1]; simp [go_sem])
        have r4 := cellr (show w1.cell? ⟨wr.heap.size, 4, none⟩ = some (.int .i64 xs[k].fAtX) by rw [hw1]; simp [go_sem])
        have r5 := cellr (show w1.cell? ⟨wr.heap.size, 5, none⟩ = some (.int .i64 xs[k].fAtY) by rw [hw1]; simp [go_sem])
        have r6 := cellr (show w1.cell? ⟨wr.heap.size, 6, none⟩ = some (.int .i64 xs[k].fRadius) by rw [hw1]; simp [go_sem])
        have r7 := cellr (show w1.cell? ⟨wr.heap.size, 7, none⟩ = some (.string xs[k].fWords) by rw [hw1]; simp [go_sem])
        have r8 := cellr (show w1.cell? ⟨b, off + (k - 1) * 8, none⟩ = some (.int .i64 xs[k - 1].fNumber) by rw [hw1]; simp [go_sem, hbr, p0])
        have hB1 : Below w.heap.size w w1 := hw1 ▸ (by (repeat' (first | (with_reducible exact Below.refl _ _) | (with_reducible refine Below.alloc ?_ ?_ _) | (with_reducible refine Below.drew ?_) | (with_reducible refine below_drewN ?_ _) | (with_reducible refine Below.setCell ?_ ?_ _) | (with_reducible refine below_via ‹_› ?_ ?_) | (with_reducible refine below_grow ?_ ?_ _ _) | omega | (simp; done) | (simp; omega))))
        have hz1 := hB1.size
        clear hw1
        cases hq1 : warnB xs[k].fNumber xs[k].fPriority xs[k].fFrom xs[k].fUntil xs[k].fAtX xs[k].fAtY xs[k].fRadius xs[k].fWords
        · (try have hd : decide (xs[k].fNumber ≤ xs[k - 1].fNumber) = true := decide_eq_true (Int.not_lt.mp (of_decide_eq_false hq2)))
          (try have hd : decide (xs[k].fNumber ≤ xs[k - 1].fNumber) = false := decide_eq_false (Int.not_le.mpr (of_decide_eq_true hq2)))
          (refine wp_region_quiet_below (by kernel_rfl) (by kernel_rfl) ?_; (repeat (first | go_big_quiet_step ((first | (go_at_call 33; exact regrown_bool (c_ValidWarning xs[k].fNumber xs[k].fPriority xs[k].fFrom xs[k].fUntil xs[k].fAtX xs[k].fAtY xs[k].fRadius xs[k].fWords _ o1) (by assumption)))) | quiet_step ((first | (go_at_call 33; exact regrown_bool (c_ValidWarning xs[k].fNumber xs[k].fPriority xs[k].fFrom xs[k].fUntil xs[k].fAtX xs[k].fAtY xs[k].fRadius xs[k].fWords _ o1) (by assumption)))))); refine wpQuiet_nil ?_; intro w1 hw'; have hb := below_of_regrown hw'; clear hw'; obtain ⟨hc, hf⟩ := bcell hb; have hz := hb.size; (try simp at hz); (try have hz0 : ∀ b, b < w.heap.size → b < w1.heap.size := fun b h => by omega); (try have hz1 : w.heap.size < w1.heap.size := by omega); (try have hz2 : w.heap.size + 1 < w1.heap.size := by omega); (try have hz3 : w.heap.size + 2 < w1.heap.size := by omega))
          go_wp2
          first
            | (go_ret; exact ⟨ret_bool (by rw [warnsB, allB_false (k := k) (by rw [HS.out]; simp [warnD, *]) hlt]; rfl), by (repeat' (first | (with_reducible exact Below.refl _ _) | (with_reducible refine Below.alloc ?_ ?_ _) | (with_reducible refine Below.drew ?_) | (with_reducible refine below_drewN ?_ _) | (with_reducible refine Below.setCell ?_ ?_ _) | (with_reducible refine below_via ‹_› ?_ ?_) | (with_reducible refine below_grow ?_ ?_ _ _) | omega | (simp; done) | (simp; omega)))⟩)
            | (go_roundw
               case rel => exact ⟨k + 1, by omega, by go_num, all_snoc HA.out (by rw [HS.out]; simp [warnD, *]), by (repeat' (first | (with_reducible exact Below.refl _ _) | (with_reducible refine Below.alloc ?_ ?_ _) | (with_reducible refine Below.drew ?_) | (with_reducible refine below_drewN ?_ _) | (with_reducible refine Below.setCell ?_ ?_ _) | (with_reducible refine below_via ‹_› ?_ ?_) | (with_reducible refine below_grow ?_ ?_ _ _) | omega | (simp; done) | (simp; omega)))⟩
               case measure => simp [intOf]; omega)
        cases hq2 : decide (xs[k - 1].fNumber < xs[k].fNumber)
        · (try have hd : decide (xs[k].fNumber ≤ xs[k - 1].fNumber) = true := decide_eq_true (Int.not_lt.mp (of_decide_eq_false hq2)))
          (try have hd : decide (xs[k].fNumber ≤ xs[k - 1].fNumber) = false := decide_eq_false (Int.not_le.mpr (of_decide_eq_true hq2)))
          (refine wp_region_quiet_below (by kernel_rfl) (by kernel_rfl) ?_; (repeat (first | go_big_quiet_step ((first | (go_at_call 33; exact regrown_bool (c_ValidWarning xs[k].fNumber xs[k].fPriority xs[k].fFrom xs[k].fUntil xs[k].fAtX xs[k].fAtY xs[k].fRadius xs[k].fWords _ o1) (by assumption)))) | quiet_step ((first | (go_at_call 33; exact regrown_bool (c_ValidWarning xs[k].fNumber xs[k].fPriority xs[k].fFrom xs[k].fUntil xs[k].fAtX xs[k].fAtY xs[k].fRadius xs[k].fWords _ o1) (by assumption)))))); refine wpQuiet_nil ?_; intro w1 hw'; have hb := below_of_regrown hw'; clear hw'; obtain ⟨hc, hf⟩ := bcell hb; have hz := hb.size; (try simp at hz); (try have hz0 : ∀ b, b < w.heap.size → b < w1.heap.size := fun b h => by omega); (try have hz1 : w.heap.size < w1.heap.size := by omega); (try have hz2 : w.heap.size + 1 < w1.heap.size := by omega); (try have hz3 : w.heap.size + 2 < w1.heap.size := by omega))
          go_wp2
          first
            | (go_ret; exact ⟨ret_bool (by rw [warnsB, allB_false (k := k) (by rw [HS.out]; simp [warnD, *]) hlt]; rfl), by (repeat' (first | (with_reducible exact Below.refl _ _) | (with_reducible refine Below.alloc ?_ ?_ _) | (with_reducible refine Below.drew ?_) | (with_reducible refine below_drewN ?_ _) | (with_reducible refine Below.setCell ?_ ?_ _) | (with_reducible refine below_via ‹_› ?_ ?_) | (with_reducible refine below_grow ?_ ?_ _ _) | omega | (simp; done) | (simp; omega)))⟩)
            | (go_roundw
               case rel => exact ⟨k + 1, by omega, by go_num, all_snoc HA.out (by rw [HS.out]; simp [warnD, *]), by (repeat' (first | (with_reducible exact Below.refl _ _) | (with_reducible refine Below.alloc ?_ ?_ _) | (with_reducible refine Below.drew ?_) | (with_reducible refine below_drewN ?_ _) | (with_reducible refine Below.setCell ?_ ?_ _) | (with_reducible refine below_via ‹_› ?_ ?_) | (with_reducible refine below_grow ?_ ?_ _ _) | omega | (simp; done) | (simp; omega)))⟩
               case measure => simp [intOf]; omega)
        (try have hd : decide (xs[k].fNumber ≤ xs[k - 1].fNumber) = true := decide_eq_true (Int.not_lt.mp (of_decide_eq_false hq2)))
        (try have hd : decide (xs[k].fNumber ≤ xs[k - 1].fNumber) = false := decide_eq_false (Int.not_le.mpr (of_decide_eq_true hq2)))
        (refine wp_region_quiet_below (by kernel_rfl) (by kernel_rfl) ?_; (repeat (first | go_big_quiet_step ((first | (go_at_call 33; exact regrown_bool (c_ValidWarning xs[k].fNumber xs[k].fPriority xs[k].fFrom xs[k].fUntil xs[k].fAtX xs[k].fAtY xs[k].fRadius xs[k].fWords _ o1) (by assumption)))) | quiet_step ((first | (go_at_call 33; exact regrown_bool (c_ValidWarning xs[k].fNumber xs[k].fPriority xs[k].fFrom xs[k].fUntil xs[k].fAtX xs[k].fAtY xs[k].fRadius xs[k].fWords _ o1) (by assumption)))))); refine wpQuiet_nil ?_; intro w1 hw'; have hb := below_of_regrown hw'; clear hw'; obtain ⟨hc, hf⟩ := bcell hb; have hz := hb.size; (try simp at hz); (try have hz0 : ∀ b, b < w.heap.size → b < w1.heap.size := fun b h => by omega); (try have hz1 : w.heap.size < w1.heap.size := by omega); (try have hz2 : w.heap.size + 1 < w1.heap.size := by omega); (try have hz3 : w.heap.size + 2 < w1.heap.size := by omega))
        go_wp2
        first
          | (go_ret; exact ⟨ret_bool (by rw [warnsB, allB_false (k := k) (by rw [HS.out]; simp [warnD, *]) hlt]; rfl), by (repeat' (first | (with_reducible exact Below.refl _ _) | (with_reducible refine Below.alloc ?_ ?_ _) | (with_reducible refine Below.drew ?_) | (with_reducible refine below_drewN ?_ _) | (with_reducible refine Below.setCell ?_ ?_ _) | (with_reducible refine below_via ‹_› ?_ ?_) | (with_reducible refine below_grow ?_ ?_ _ _) | omega | (simp; done) | (simp; omega)))⟩)
          | (go_roundw
             case rel => exact ⟨k + 1, by omega, by go_num, all_snoc HA.out (by rw [HS.out]; simp [warnD, *]), by (repeat' (first | (with_reducible exact Below.refl _ _) | (with_reducible refine Below.alloc ?_ ?_ _) | (with_reducible refine Below.drew ?_) | (with_reducible refine below_drewN ?_ _) | (with_reducible refine Below.setCell ?_ ?_ _) | (with_reducible refine below_via ‹_› ?_ ?_) | (with_reducible refine below_grow ?_ ?_ _ _) | omega | (simp; done) | (simp; omega)))⟩
             case measure => simp [intOf]; omega)
    · have HR := hid (show warnsB xs = decide ((xs.length : Int) ≤ 32) by rw [warnsB, allB_true (fun i hi => HA.out i (by omega))]; rfl)
      clear hx
      go_wp2_with (first | (go_at_call 54; refine (c_few _ _ _).mono ?_; rintro e w' ⟨rfl, rfl⟩))
      go_ret
      exact ⟨ret_bool HR.out.symm, by (repeat' (first | (with_reducible exact Below.refl _ _) | (with_reducible refine Below.alloc ?_ ?_ _) | (with_reducible refine Below.drew ?_) | (with_reducible refine below_drewN ?_ _) | (with_reducible refine Below.setCell ?_ ?_ _) | (with_reducible refine below_via ‹_› ?_ ?_) | (with_reducible refine below_grow ?_ ?_ _ _) | omega | (simp; done) | (simp; omega)))⟩
end Go.Proofs.Ytajlllpjgeoliaa
