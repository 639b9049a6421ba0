/- Warnings: validity, on both sides. -/
import Derived.Test.YtocpgnpdnoidnaaDoorTWarning
import Derived.Test.YtocpgnpdnoidnaaDoorTInt64
import Derived.Test.YtocpgnpdnoidnaaDoorWork
namespace Go.Proofs.YtocpgnpdnoidnaaDoor
open Go.RowKit Go.Sort
set_option maxRecDepth 100000

def plainCh (c : UInt8) : Bool := inB (c.toNat : Int) 32 126
def plainB (s : ByteArray) : Bool := s.toList.all plainCh
theorem plainCh_lo {c : UInt8} (h : (c.toNat : Int) < 32) : plainCh c = false := by simp [plainCh, inB]; omega
theorem plainCh_hi {c : UInt8} (h : 126 < (c.toNat : Int)) : plainCh c = false := by simp [plainCh, inB]; omega
theorem plainCh_in {c : UInt8} (h : 32 ≤ (c.toNat : Int)) (h' : (c.toNat : Int) ≤ 126) : plainCh c = true := by simp [plainCh, inB]; omega
theorem plain_cases (c : UInt8) : ((c.toNat : Int) < 32 ∧ plainCh c = false) ∨ (32 ≤ (c.toNat : Int) ∧ 126 < (c.toNat : Int) ∧ plainCh c = false) ∨ (32 ≤ (c.toNat : Int) ∧ (c.toNat : Int) ≤ 126 ∧ plainCh c = true) := by
  by_cases h : (c.toNat : Int) < 32
  · exact Or.inl ⟨h, plainCh_lo h⟩
  · by_cases h2 : (c.toNat : Int) ≤ 126
    · exact Or.inr (Or.inr ⟨by omega, h2, plainCh_in (by omega) h2⟩)
    · exact Or.inr (Or.inl ⟨by omega, by omega, plainCh_hi (by omega)⟩)
theorem c_isPlain (s : ByteArray) (w : World) (hs : s.size ≤ maxLen) :
    Calls Tryd.prog 77 #[.string s] w fun e w' => e = .returned (.bool (plainB s)) ∧ w = w' := by
  unfold maxLen at hs
  go_enter Tryd.func77, Tryd.ntmps77
  go_wp2
  go_loop [3] (fun i => ∃ k : Nat, k ≤ s.size ∧ i = .int .i64 k ∧ plainB s = (s.toList.drop k).all plainCh) (fun i => s.size - (intOf i).toNat)
  case atStart => exact ⟨0, Nat.zero_le _, rfl, by simp [plainB]⟩
  case round =>
    obtain ⟨k, hk, rfl, hn⟩ := hrel
    by_cases hlt : k < s.size
    · have HA := hid (hn.trans (str_all s plainCh k hlt)); clear hn
      have hw := hid (show inB (wrap64 (s[k].toNat : Int)) 32 126 = plainCh s[k] by rw [show wrap64 (s[k].toNat : Int) = s[k].toNat by have := s[k].toNat_lt; unfold wrap64; omega]; rfl)
      cases hp : inB (wrap64 (s[k].toNat : Int)) 32 126
      · go_wp2_with (first | (go_at_call 73; refine (c_within _ _ _ _).mono ?_; rintro e w' ⟨rfl, rfl⟩))
        go_ret
        rw [HA.out, ← hw.out, hp]; simp
      · go_wp2_with (first | (go_at_call 73; refine (c_within _ _ _ _).mono ?_; rintro e w' ⟨rfl, rfl⟩))
        go_round
        case rel => exact ⟨k+1, by omega, by go_num, by rw [HA.out, ← hw.out, hp]; simp⟩
        case measure => simp [intOf]; omega
    · have HA := hid (hn.trans (str_all_end s plainCh k (by omega))); clear hn
      go_wp2
      go_ret
      simp [HA.out]
theorem c_isNumber (n : Int) (w : World) :
    Calls Tryd.prog 72 #[.int .i64 n] w fun e w' => e = .returned (.bool (inB n 1 9999)) ∧ w = w' := by
  go_enter Tryd.func72, Tryd.ntmps72
  go_wp2_with (first | (go_at_call 73; refine (c_within _ _ _ _).mono ?_; rintro e w' ⟨rfl, rfl⟩))
  go_ret
  exact ⟨rfl, rfl⟩
theorem c_isTime (n : Int) (w : World) :
    Calls Tryd.prog 74 #[.int .i64 n] w fun e w' => e = .returned (.bool (inB n 0 143999999)) ∧ w = w' := by
  go_enter Tryd.func74, Tryd.ntmps74
  go_wp2_with (first | (go_at_call 73; refine (c_within _ _ _ _).mono ?_; rintro e w' ⟨rfl, rfl⟩))
  go_ret
  exact ⟨rfl, rfl⟩
theorem c_isAway (n : Int) (w : World) :
    Calls Tryd.prog 76 #[.int .i64 n] w fun e w' => e = .returned (.bool (inB n 0 20000)) ∧ w = w' := by
  go_enter Tryd.func76, Tryd.ntmps76
  go_wp2_with (first | (go_at_call 73; refine (c_within _ _ _ _).mono ?_; rintro e w' ⟨rfl, rfl⟩))
  go_ret
  exact ⟨rfl, rfl⟩
theorem c_l20Number (n : Int) (w : World) :
    Calls Tryd.prog 66 #[.int .i64 n] w fun e w' => e = .returned (.bool (inB n 1 9999)) ∧ w = w' := by
  go_enter Tryd.func66, Tryd.ntmps66
  go_wp2_with (first | (go_at_call 64; refine (c_l00In _ _ _ _).mono ?_; rintro e w' ⟨rfl, rfl⟩))
  go_ret
  exact ⟨rfl, rfl⟩
theorem c_l20Time (n : Int) (w : World) :
    Calls Tryd.prog 68 #[.int .i64 n] w fun e w' => e = .returned (.bool (inB n 0 143999999)) ∧ w = w' := by
  go_enter Tryd.func68, Tryd.ntmps68
  go_wp2_with (first | (go_at_call 64; refine (c_l00In _ _ _ _).mono ?_; rintro e w' ⟨rfl, rfl⟩))
  go_ret
  exact ⟨rfl, rfl⟩
theorem c_l22Priority (n : Int) (w : World) :
    Calls Tryd.prog 67 #[.int .i64 n] w fun e w' => e = .returned (.bool (inB n 1 3)) ∧ w = w' := by
  go_enter Tryd.func67, Tryd.ntmps67
  go_wp2_with (first | (go_at_call 64; refine (c_l00In _ _ _ _).mono ?_; rintro e w' ⟨rfl, rfl⟩))
  go_ret
  exact ⟨rfl, rfl⟩

def warnH (n p f u x y r : Int) : Bool :=
  inB n 1 9999 && inB p 1 3 && inB f 0 143999999 && inB u 0 143999999 && decide (f < u) && pointB x y && inB r 0 20000
def warnB (n p f u x y r : Int) (s : ByteArray) : Bool := warnH n p f u x y r && inB (s.size : Int) 1 60 && plainB s
def warnD (d : WarningD) : Bool := warnB d.fNumber d.fPriority d.fFrom d.fUntil d.fAtX d.fAtY d.fRadius d.fWords
theorem upper_in {f u : Int} (hf : inB f 0 143999999 = true) : inB u (f + 1) 143999999 = (inB u 0 143999999 && decide (f < u)) := by
  have := inB_true hf
  simp only [inB]; rw [Bool.eq_iff_iff]; simp; omega
set_option maxHeartbeats 1000000 in
theorem c_l22One (bk off : Nat) (n p f u x y r : Int) (s : ByteArray) (w : World) (hbk : bk < w.heap.size) (hs : s.size ≤ maxLen) (h0 : w.cell? ⟨bk, off, none⟩ = some (.int .i64 n)) (h1 : w.cell? ⟨bk, off+1, none⟩ = some (.int .i64 p))
    (h2 : w.cell? ⟨bk, off+2, none⟩ = some (.int .i64 f)) (h3 : w.cell? ⟨bk, off+3, none⟩ = some (.int .i64 u)) (h4 : w.cell? ⟨bk, off+4, none⟩ = some (.int .i64 x)) (h5 : w.cell? ⟨bk, off+5, none⟩ = some (.int .i64 y)) (h6 : w.cell? ⟨bk, off+6, none⟩ = some (.int .i64 r)) (h7 : w.cell? ⟨bk, off+7, none⟩ = some (.string s)) :
    Calls Tryd.prog 36 #[.pointer (some ⟨bk, off, none⟩)] w fun e w' => e = .returned (.bool (warnB n p f u x y r s)) ∧ Below w.heap.size w w' := by
  have hs' := hs
  unfold maxLen at hs'
  have r0 := cellr h0
  have r1 := cellr h1
  have r2 := cellr h2
  have r3 := cellr h3
  have r4 := cellr h4
  have r5 := cellr h5
  have r6 := cellr h6
  cases hq1 : inB n 1 9999
  · (try have hd : decide (u ≤ f) = true := decide_eq_true (Int.not_lt.mp (of_decide_eq_false hq5)))
    (try have hd : decide (u ≤ f) = false := decide_eq_false (Int.not_le.mpr (of_decide_eq_true hq5)))
    go_enter Tryd.func36, Tryd.ntmps36
    go_wp2
    (refine wp_region_quiet_below (by kernel_rfl) (by kernel_rfl) ?_; (repeat (first | go_big_quiet_step ((first | (go_at_call 66; first | exact regrown_bool_pure (c_l20Number _ _) (by assumption) | exact regrown_of_pure (c_l20Number _ _)) | (go_at_call 67; first | exact regrown_bool_pure (c_l22Priority _ _) (by assumption) | exact regrown_of_pure (c_l22Priority _ _)) | (go_at_call 68; first | exact regrown_bool_pure (c_l20Time _ _) (by assumption) | exact regrown_of_pure (c_l20Time _ _)) | (go_at_call 69; first | exact regrown_bool (c_l02Ok _ _ _) (by assumption) | exact regrown_of (c_l02Ok _ _ _)) | (go_at_call 64; first | exact regrown_bool_pure (c_l00In _ _ _ _) (by assumption) | exact regrown_of_pure (c_l00In _ _ _ _)))) | quiet_step ((first | (go_at_call 66; first | exact regrown_bool_pure (c_l20Number _ _) (by assumption) | exact regrown_of_pure (c_l20Number _ _)) | (go_at_call 67; first | exact regrown_bool_pure (c_l22Priority _ _) (by assumption) | exact regrown_of_pure (c_l22Priority _ _)) | (go_at_call 68; first | exact regrown_bool_pure (c_l20Time _ _) (by assumption) | exact regrown_of_pure (c_l20Time _ _)) | (go_at_call 69; first | exact regrown_bool (c_l02Ok _ _ _) (by assumption) | exact regrown_of (c_l02Ok _ _ _)) | (go_at_call 64; first | exact regrown_bool_pure (c_l00In _ _ _ _) (by assumption) | exact regrown_of_pure (c_l00In _ _ _ _)))))); refine wpQuiet_nil ?_; intro w1 hw'; have hb := below_of_regrown hw'; clear hw'; obtain ⟨hc, hf⟩ := bcell hb; have hz := hb.size; (try simp at hz); (try have hz0 : ∀ b, b < w.heap.size → b < w1.heap.size := fun b h => by omega); (try have hz1 : w.heap.size < w1.heap.size := by omega); (try have hz2 : w.heap.size + 1 < w1.heap.size := by omega); (try have hz3 : w.heap.size + 2 < w1.heap.size := by omega))
    go_wp2
    go_ret
    refine ⟨ret_bool ?_, by (repeat' (first | (with_reducible exact Below.refl _ _) | (with_reducible refine Below.alloc ?_ ?_ _) | (with_reducible refine Below.drew ?_) | (with_reducible refine below_drewN ?_ _) | (with_reducible refine Below.setCell ?_ ?_ _) | (with_reducible refine below_via ‹_› ?_ ?_) | (with_reducible refine below_grow ?_ ?_ _ _) | omega | (simp; done) | (simp; omega)))⟩
    go_light
    simp [warnB, warnH, *]
  cases hq2 : inB p 1 3
  · (try have hd : decide (u ≤ f) = true := decide_eq_true (Int.not_lt.mp (of_decide_eq_false hq5)))
    (try have hd : decide (u ≤ f) = false := decide_eq_false (Int.not_le.mpr (of_decide_eq_true hq5)))
    go_enter Tryd.func36, Tryd.ntmps36
    go_wp2
    (refine wp_region_quiet_below (by kernel_rfl) (by kernel_rfl) ?_; (repeat (first | go_big_quiet_step ((first | (go_at_call 66; first | exact regrown_bool_pure (c_l20Number _ _) (by assumption) | exact regrown_of_pure (c_l20Number _ _)) | (go_at_call 67; first | exact regrown_bool_pure (c_l22Priority _ _) (by assumption) | exact regrown_of_pure (c_l22Priority _ _)) | (go_at_call 68; first | exact regrown_bool_pure (c_l20Time _ _) (by assumption) | exact regrown_of_pure (c_l20Time _ _)) | (go_at_call 69; first | exact regrown_bool (c_l02Ok _ _ _) (by assumption) | exact regrown_of (c_l02Ok _ _ _)) | (go_at_call 64; first | exact regrown_bool_pure (c_l00In _ _ _ _) (by assumption) | exact regrown_of_pure (c_l00In _ _ _ _)))) | quiet_step ((first | (go_at_call 66; first | exact regrown_bool_pure (c_l20Number _ _) (by assumption) | exact regrown_of_pure (c_l20Number _ _)) | (go_at_call 67; first | exact regrown_bool_pure (c_l22Priority _ _) (by assumption) | exact regrown_of_pure (c_l22Priority _ _)) | (go_at_call 68; first | exact regrown_bool_pure (c_l20Time _ _) (by assumption) | exact regrown_of_pure (c_l20Time _ _)) | (go_at_call 69; first | exact regrown_bool (c_l02Ok _ _ _) (by assumption) | exact regrown_of (c_l02Ok _ _ _)) | (go_at_call 64; first | exact regrown_bool_pure (c_l00In _ _ _ _) (by assumption) | exact regrown_of_pure (c_l00In _ _ _ _)))))); refine wpQuiet_nil ?_; intro w1 hw'; have hb := below_of_regrown hw'; clear hw'; obtain ⟨hc, hf⟩ := bcell hb; have hz := hb.size; (try simp at hz); (try have hz0 : ∀ b, b < w.heap.size → b < w1.heap.size := fun b h => by omega); (try have hz1 : w.heap.size < w1.heap.size := by omega); (try have hz2 : w.heap.size + 1 < w1.heap.size := by omega); (try have hz3 : w.heap.size + 2 < w1.heap.size := by omega))
    go_wp2
    go_ret
    refine ⟨ret_bool ?_, by (repeat' (first | (with_reducible exact Below.refl _ _) | (with_reducible refine Below.alloc ?_ ?_ _) | (with_reducible refine Below.drew ?_) | (with_reducible refine below_drewN ?_ _) | (with_reducible refine Below.setCell ?_ ?_ _) | (with_reducible refine below_via ‹_› ?_ ?_) | (with_reducible refine below_grow ?_ ?_ _ _) | omega | (simp; done) | (simp; omega)))⟩
    go_light
    simp [warnB, warnH, *]
  cases hq3 : inB f 0 143999999
  · (try have hd : decide (u ≤ f) = true := decide_eq_true (Int.not_lt.mp (of_decide_eq_false hq5)))
    (try have hd : decide (u ≤ f) = false := decide_eq_false (Int.not_le.mpr (of_decide_eq_true hq5)))
    go_enter Tryd.func36, Tryd.ntmps36
    go_wp2
    (refine wp_region_quiet_below (by kernel_rfl) (by kernel_rfl) ?_; (repeat (first | go_big_quiet_step ((first | (go_at_call 66; first | exact regrown_bool_pure (c_l20Number _ _) (by assumption) | exact regrown_of_pure (c_l20Number _ _)) | (go_at_call 67; first | exact regrown_bool_pure (c_l22Priority _ _) (by assumption) | exact regrown_of_pure (c_l22Priority _ _)) | (go_at_call 68; first | exact regrown_bool_pure (c_l20Time _ _) (by assumption) | exact regrown_of_pure (c_l20Time _ _)) | (go_at_call 69; first | exact regrown_bool (c_l02Ok _ _ _) (by assumption) | exact regrown_of (c_l02Ok _ _ _)) | (go_at_call 64; first | exact regrown_bool_pure (c_l00In _ _ _ _) (by assumption) | exact regrown_of_pure (c_l00In _ _ _ _)))) | quiet_step ((first | (go_at_call 66; first | exact regrown_bool_pure (c_l20Number _ _) (by assumption) | exact regrown_of_pure (c_l20Number _ _)) | (go_at_call 67; first | exact regrown_bool_pure (c_l22Priority _ _) (by assumption) | exact regrown_of_pure (c_l22Priority _ _)) | (go_at_call 68; first | exact regrown_bool_pure (c_l20Time _ _) (by assumption) | exact regrown_of_pure (c_l20Time _ _)) | (go_at_call 69; first | exact regrown_bool (c_l02Ok _ _ _) (by assumption) | exact regrown_of (c_l02Ok _ _ _)) | (go_at_call 64; first | exact regrown_bool_pure (c_l00In _ _ _ _) (by assumption) | exact regrown_of_pure (c_l00In _ _ _ _)))))); refine wpQuiet_nil ?_; intro w1 hw'; have hb := below_of_regrown hw'; clear hw'; obtain ⟨hc, hf⟩ := bcell hb; have hz := hb.size; (try simp at hz); (try have hz0 : ∀ b, b < w.heap.size → b < w1.heap.size := fun b h => by omega); (try have hz1 : w.heap.size < w1.heap.size := by omega); (try have hz2 : w.heap.size + 1 < w1.heap.size := by omega); (try have hz3 : w.heap.size + 2 < w1.heap.size := by omega))
    go_wp2
    go_ret
    refine ⟨ret_bool ?_, by (repeat' (first | (with_reducible exact Below.refl _ _) | (with_reducible refine Below.alloc ?_ ?_ _) | (with_reducible refine Below.drew ?_) | (with_reducible refine below_drewN ?_ _) | (with_reducible refine Below.setCell ?_ ?_ _) | (with_reducible refine below_via ‹_› ?_ ?_) | (with_reducible refine below_grow ?_ ?_ _ _) | omega | (simp; done) | (simp; omega)))⟩
    go_light
    simp [warnB, warnH, *]
  cases hq4 : inB u 0 143999999
  · (try have hd : decide (u ≤ f) = true := decide_eq_true (Int.not_lt.mp (of_decide_eq_false hq5)))
    (try have hd : decide (u ≤ f) = false := decide_eq_false (Int.not_le.mpr (of_decide_eq_true hq5)))
    go_enter Tryd.func36, Tryd.ntmps36
    go_wp2
    (refine wp_region_quiet_below (by kernel_rfl) (by kernel_rfl) ?_; (repeat (first | go_big_quiet_step ((first | (go_at_call 66; first | exact regrown_bool_pure (c_l20Number _ _) (by assumption) | exact regrown_of_pure (c_l20Number _ _)) | (go_at_call 67; first | exact regrown_bool_pure (c_l22Priority _ _) (by assumption) | exact regrown_of_pure (c_l22Priority _ _)) | (go_at_call 68; first | exact regrown_bool_pure (c_l20Time _ _) (by assumption) | exact regrown_of_pure (c_l20Time _ _)) | (go_at_call 69; first | exact regrown_bool (c_l02Ok _ _ _) (by assumption) | exact regrown_of (c_l02Ok _ _ _)) | (go_at_call 64; first | exact regrown_bool_pure (c_l00In _ _ _ _) (by assumption) | exact regrown_of_pure (c_l00In _ _ _ _)))) | quiet_step ((first | (go_at_call 66; first | exact regrown_bool_pure (c_l20Number _ _) (by assumption) | exact regrown_of_pure (c_l20Number _ _)) | (go_at_call 67; first | exact regrown_bool_pure (c_l22Priority _ _) (by assumption) | exact regrown_of_pure (c_l22Priority _ _)) | (go_at_call 68; first | exact regrown_bool_pure (c_l20Time _ _) (by assumption) | exact regrown_of_pure (c_l20Time _ _)) | (go_at_call 69; first | exact regrown_bool (c_l02Ok _ _ _) (by assumption) | exact regrown_of (c_l02Ok _ _ _)) | (go_at_call 64; first | exact regrown_bool_pure (c_l00In _ _ _ _) (by assumption) | exact regrown_of_pure (c_l00In _ _ _ _)))))); refine wpQuiet_nil ?_; intro w1 hw'; have hb := below_of_regrown hw'; clear hw'; obtain ⟨hc, hf⟩ := bcell hb; have hz := hb.size; (try simp at hz); (try have hz0 : ∀ b, b < w.heap.size → b < w1.heap.size := fun b h => by omega); (try have hz1 : w.heap.size < w1.heap.size := by omega); (try have hz2 : w.heap.size + 1 < w1.heap.size := by omega); (try have hz3 : w.heap.size + 2 < w1.heap.size := by omega))
    go_wp2
    go_ret
    refine ⟨ret_bool ?_, by (repeat' (first | (with_reducible exact Below.refl _ _) | (with_reducible refine Below.alloc ?_ ?_ _) | (with_reducible refine Below.drew ?_) | (with_reducible refine below_drewN ?_ _) | (with_reducible refine Below.setCell ?_ ?_ _) | (with_reducible refine below_via ‹_› ?_ ?_) | (with_reducible refine below_grow ?_ ?_ _ _) | omega | (simp; done) | (simp; omega)))⟩
    go_light
    simp [warnB, warnH, *]
  cases hq5 : decide (f < u)
  · (try have hd : decide (u ≤ f) = true := decide_eq_true (Int.not_lt.mp (of_decide_eq_false hq5)))
    (try have hd : decide (u ≤ f) = false := decide_eq_false (Int.not_le.mpr (of_decide_eq_true hq5)))
    go_enter Tryd.func36, Tryd.ntmps36
    go_wp2
    (refine wp_region_quiet_below (by kernel_rfl) (by kernel_rfl) ?_; (repeat (first | go_big_quiet_step ((first | (go_at_call 66; first | exact regrown_bool_pure (c_l20Number _ _) (by assumption) | exact regrown_of_pure (c_l20Number _ _)) | (go_at_call 67; first | exact regrown_bool_pure (c_l22Priority _ _) (by assumption) | exact regrown_of_pure (c_l22Priority _ _)) | (go_at_call 68; first | exact regrown_bool_pure (c_l20Time _ _) (by assumption) | exact regrown_of_pure (c_l20Time _ _)) | (go_at_call 69; first | exact regrown_bool (c_l02Ok _ _ _) (by assumption) | exact regrown_of (c_l02Ok _ _ _)) | (go_at_call 64; first | exact regrown_bool_pure (c_l00In _ _ _ _) (by assumption) | exact regrown_of_pure (c_l00In _ _ _ _)))) | quiet_step ((first | (go_at_call 66; first | exact regrown_bool_pure (c_l20Number _ _) (by assumption) | exact regrown_of_pure (c_l20Number _ _)) | (go_at_call 67; first | exact regrown_bool_pure (c_l22Priority _ _) (by assumption) | exact regrown_of_pure (c_l22Priority _ _)) | (go_at_call 68; first | exact regrown_bool_pure (c_l20Time _ _) (by assumption) | exact regrown_of_pure (c_l20Time _ _)) | (go_at_call 69; first | exact regrown_bool (c_l02Ok _ _ _) (by assumption) | exact regrown_of (c_l02Ok _ _ _)) | (go_at_call 64; first | exact regrown_bool_pure (c_l00In _ _ _ _) (by assumption) | exact regrown_of_pure (c_l00In _ _ _ _)))))); refine wpQuiet_nil ?_; intro w1 hw'; have hb := below_of_regrown hw'; clear hw'; obtain ⟨hc, hf⟩ := bcell hb; have hz := hb.size; (try simp at hz); (try have hz0 : ∀ b, b < w.heap.size → b < w1.heap.size := fun b h => by omega); (try have hz1 : w.heap.size < w1.heap.size := by omega); (try have hz2 : w.heap.size + 1 < w1.heap.size := by omega); (try have hz3 : w.heap.size + 2 < w1.heap.size := by omega))
    go_wp2
    go_ret
    refine ⟨ret_bool ?_, by (repeat' (first | (with_reducible exact Below.refl _ _) | (with_reducible refine Below.alloc ?_ ?_ _) | (with_reducible refine Below.drew ?_) | (with_reducible refine below_drewN ?_ _) | (with_reducible refine Below.setCell ?_ ?_ _) | (with_reducible refine below_via ‹_› ?_ ?_) | (with_reducible refine below_grow ?_ ?_ _ _) | omega | (simp; done) | (simp; omega)))⟩
    go_light
    simp [warnB, warnH, *]
  cases hq6 : pointB x y
  · (try have hd : decide (u ≤ f) = true := decide_eq_true (Int.not_lt.mp (of_decide_eq_false hq5)))
    (try have hd : decide (u ≤ f) = false := decide_eq_false (Int.not_le.mpr (of_decide_eq_true hq5)))
    go_enter Tryd.func36, Tryd.ntmps36
    go_wp2
    (refine wp_region_quiet_below (by kernel_rfl) (by kernel_rfl) ?_; (repeat (first | go_big_quiet_step ((first | (go_at_call 66; first | exact regrown_bool_pure (c_l20Number _ _) (by assumption) | exact regrown_of_pure (c_l20Number _ _)) | (go_at_call 67; first | exact regrown_bool_pure (c_l22Priority _ _) (by assumption) | exact regrown_of_pure (c_l22Priority _ _)) | (go_at_call 68; first | exact regrown_bool_pure (c_l20Time _ _) (by assumption) | exact regrown_of_pure (c_l20Time _ _)) | (go_at_call 69; first | exact regrown_bool (c_l02Ok _ _ _) (by assumption) | exact regrown_of (c_l02Ok _ _ _)) | (go_at_call 64; first | exact regrown_bool_pure (c_l00In _ _ _ _) (by assumption) | exact regrown_of_pure (c_l00In _ _ _ _)))) | quiet_step ((first | (go_at_call 66; first | exact regrown_bool_pure (c_l20Number _ _) (by assumption) | exact regrown_of_pure (c_l20Number _ _)) | (go_at_call 67; first | exact regrown_bool_pure (c_l22Priority _ _) (by assumption) | exact regrown_of_pure (c_l22Priority _ _)) | (go_at_call 68; first | exact regrown_bool_pure (c_l20Time _ _) (by assumption) | exact regrown_of_pure (c_l20Time _ _)) | (go_at_call 69; first | exact regrown_bool (c_l02Ok _ _ _) (by assumption) | exact regrown_of (c_l02Ok _ _ _)) | (go_at_call 64; first | exact regrown_bool_pure (c_l00In _ _ _ _) (by assumption) | exact regrown_of_pure (c_l00In _ _ _ _)))))); refine wpQuiet_nil ?_; intro w1 hw'; have hb := below_of_regrown hw'; clear hw'; obtain ⟨hc, hf⟩ := bcell hb; have hz := hb.size; (try simp at hz); (try have hz0 : ∀ b, b < w.heap.size → b < w1.heap.size := fun b h => by omega); (try have hz1 : w.heap.size < w1.heap.size := by omega); (try have hz2 : w.heap.size + 1 < w1.heap.size := by omega); (try have hz3 : w.heap.size + 2 < w1.heap.size := by omega))
    go_wp2
    go_ret
    refine ⟨ret_bool ?_, by (repeat' (first | (with_reducible exact Below.refl _ _) | (with_reducible refine Below.alloc ?_ ?_ _) | (with_reducible refine Below.drew ?_) | (with_reducible refine below_drewN ?_ _) | (with_reducible refine Below.setCell ?_ ?_ _) | (with_reducible refine below_via ‹_› ?_ ?_) | (with_reducible refine below_grow ?_ ?_ _ _) | omega | (simp; done) | (simp; omega)))⟩
    go_light
    simp [warnB, warnH, *]
  cases hq7 : inB r 0 20000
  · (try have hd : decide (u ≤ f) = true := decide_eq_true (Int.not_lt.mp (of_decide_eq_false hq5)))
    (try have hd : decide (u ≤ f) = false := decide_eq_false (Int.not_le.mpr (of_decide_eq_true hq5)))
    go_enter Tryd.func36, Tryd.ntmps36
    go_wp2
    (refine wp_region_quiet_below (by kernel_rfl) (by kernel_rfl) ?_; (repeat (first | go_big_quiet_step ((first | (go_at_call 66; first | exact regrown_bool_pure (c_l20Number _ _) (by assumption) | exact regrown_of_pure (c_l20Number _ _)) | (go_at_call 67; first | exact regrown_bool_pure (c_l22Priority _ _) (by assumption) | exact regrown_of_pure (c_l22Priority _ _)) | (go_at_call 68; first | exact regrown_bool_pure (c_l20Time _ _) (by assumption) | exact regrown_of_pure (c_l20Time _ _)) | (go_at_call 69; first | exact regrown_bool (c_l02Ok _ _ _) (by assumption) | exact regrown_of (c_l02Ok _ _ _)) | (go_at_call 64; first | exact regrown_bool_pure (c_l00In _ _ _ _) (by assumption) | exact regrown_of_pure (c_l00In _ _ _ _)))) | quiet_step ((first | (go_at_call 66; first | exact regrown_bool_pure (c_l20Number _ _) (by assumption) | exact regrown_of_pure (c_l20Number _ _)) | (go_at_call 67; first | exact regrown_bool_pure (c_l22Priority _ _) (by assumption) | exact regrown_of_pure (c_l22Priority _ _)) | (go_at_call 68; first | exact regrown_bool_pure (c_l20Time _ _) (by assumption) | exact regrown_of_pure (c_l20Time _ _)) | (go_at_call 69; first | exact regrown_bool (c_l02Ok _ _ _) (by assumption) | exact regrown_of (c_l02Ok _ _ _)) | (go_at_call 64; first | exact regrown_bool_pure (c_l00In _ _ _ _) (by assumption) | exact regrown_of_pure (c_l00In _ _ _ _)))))); refine wpQuiet_nil ?_; intro w1 hw'; have hb := below_of_regrown hw'; clear hw'; obtain ⟨hc, hf⟩ := bcell hb; have hz := hb.size; (try simp at hz); (try have hz0 : ∀ b, b < w.heap.size → b < w1.heap.size := fun b h => by omega); (try have hz1 : w.heap.size < w1.heap.size := by omega); (try have hz2 : w.heap.size + 1 < w1.heap.size := by omega); (try have hz3 : w.heap.size + 2 < w1.heap.size := by omega))
    go_wp2
    go_ret
    refine ⟨ret_bool ?_, by (repeat' (first | (with_reducible exact Below.refl _ _) | (with_reducible refine Below.alloc ?_ ?_ _) | (with_reducible refine Below.drew ?_) | (with_reducible refine below_drewN ?_ _) | (with_reducible refine Below.setCell ?_ ?_ _) | (with_reducible refine below_via ‹_› ?_ ?_) | (with_reducible refine below_grow ?_ ?_ _ _) | omega | (simp; done) | (simp; omega)))⟩
    go_light
    simp [warnB, warnH, *]
  have HW := hid (show warnB n p f u x y r s = (inB (s.size : Int) 1 60 && plainB s) by simp [warnB, warnH, *])
  (try have hd : decide (u ≤ f) = true := decide_eq_true (Int.not_lt.mp (of_decide_eq_false hq5)))
  (try have hd : decide (u ≤ f) = false := decide_eq_false (Int.not_le.mpr (of_decide_eq_true hq5)))
  go_enter Tryd.func36, Tryd.ntmps36
  go_wp2
  (refine wp_region_quiet_below (by kernel_rfl) (by kernel_rfl) ?_; (repeat (first | go_big_quiet_step ((first | (go_at_call 66; first | exact regrown_bool_pure (c_l20Number _ _) (by assumption) | exact regrown_of_pure (c_l20Number _ _)) | (go_at_call 67; first | exact regrown_bool_pure (c_l22Priority _ _) (by assumption) | exact regrown_of_pure (c_l22Priority _ _)) | (go_at_call 68; first | exact regrown_bool_pure (c_l20Time _ _) (by assumption) | exact regrown_of_pure (c_l20Time _ _)) | (go_at_call 69; first | exact regrown_bool (c_l02Ok _ _ _) (by assumption) | exact regrown_of (c_l02Ok _ _ _)) | (go_at_call 64; first | exact regrown_bool_pure (c_l00In _ _ _ _) (by assumption) | exact regrown_of_pure (c_l00In _ _ _ _)))) | quiet_step ((first | (go_at_call 66; first | exact regrown_bool_pure (c_l20Number _ _) (by assumption) | exact regrown_of_pure (c_l20Number _ _)) | (go_at_call 67; first | exact regrown_bool_pure (c_l22Priority _ _) (by assumption) | exact regrown_of_pure (c_l22Priority _ _)) | (go_at_call 68; first | exact regrown_bool_pure (c_l20Time _ _) (by assumption) | exact regrown_of_pure (c_l20Time _ _)) | (go_at_call 69; first | exact regrown_bool (c_l02Ok _ _ _) (by assumption) | exact regrown_of (c_l02Ok _ _ _)) | (go_at_call 64; first | exact regrown_bool_pure (c_l00In _ _ _ _) (by assumption) | exact regrown_of_pure (c_l00In _ _ _ _)))))); refine wpQuiet_nil ?_; intro w1 hw'; have hb := below_of_regrown hw'; clear hw'; obtain ⟨hc, hf⟩ := bcell hb; have hz := hb.size; (try simp at hz); (try have hz0 : ∀ b, b < w.heap.size → b < w1.heap.size := fun b h => by omega); (try have hz1 : w.heap.size < w1.heap.size := by omega); (try have hz2 : w.heap.size + 1 < w1.heap.size := by omega); (try have hz3 : w.heap.size + 2 < w1.heap.size := by omega))
  clear hd hq1 hq2 hq3 hq4 hq5 hq6 hq7 r0 r1 r2 r3 r4 r5 r6
  go_wp2
  go_loopw [3] (fun i wr => ∃ k : Nat, k ≤ s.size ∧ i = .int .i64 k ∧ plainB s = (s.toList.drop k).all plainCh ∧ Below w.heap.size w wr) (fun i _ => s.size - (intOf i).toNat)
  case atStart => exact ⟨0, Nat.zero_le _, rfl, by simp [plainB], by (repeat' (first | (with_reducible exact Below.refl _ _) | (with_reducible refine Below.alloc ?_ ?_ _) | (with_reducible refine Below.drew ?_) | (with_reducible refine below_drewN ?_ _) | (with_reducible refine Below.setCell ?_ ?_ _) | (with_reducible refine below_via ‹_› ?_ ?_) | (with_reducible refine below_grow ?_ ?_ _ _) | omega | (simp; done) | (simp; omega)))⟩
  case round =>
    obtain ⟨k, hk, rfl, hn, hB⟩ := hrel
    have hzr := hB.size
    have g7 := (hB.cell (p := ⟨bk, off + 7, none⟩) hbk).trans h7
    by_cases hlt : k < s.size
    · have HA := hid (hn.trans (str_all s plainCh k hlt)); clear hn
      rcases plain_cases s[k] with ⟨c1, hp⟩ | ⟨c1, c2, hp⟩ | ⟨c1, c2, hp⟩
      · go_wp2
        go_ret
        exact ⟨ret_bool (by rw [HW.out, HA.out, hp]; simp), by (repeat' (first | (with_reducible exact Below.refl _ _) | (with_reducible refine Below.alloc ?_ ?_ _) | (with_reducible refine Below.drew ?_) | (with_reducible refine below_drewN ?_ _) | (with_reducible refine Below.setCell ?_ ?_ _) | (with_reducible refine below_via ‹_› ?_ ?_) | (with_reducible refine below_grow ?_ ?_ _ _) | omega | (simp; done) | (simp; omega)))⟩
      · go_wp2
        go_ret
        exact ⟨ret_bool (by rw [HW.out, HA.out, hp]; simp), by (repeat' (first | (with_reducible exact Below.refl _ _) | (with_reducible refine Below.alloc ?_ ?_ _) | (with_reducible refine Below.drew ?_) | (with_reducible refine below_drewN ?_ _) | (with_reducible refine Below.setCell ?_ ?_ _) | (with_reducible refine below_via ‹_› ?_ ?_) | (with_reducible refine below_grow ?_ ?_ _ _) | omega | (simp; done) | (simp; omega)))⟩
      · go_wp2
        go_roundw
        case rel => exact ⟨k+1, by omega, by go_num, by rw [HA.out, hp]; simp, by (repeat' (first | (with_reducible exact Below.refl _ _) | (with_reducible refine Below.alloc ?_ ?_ _) | (with_reducible refine Below.drew ?_) | (with_reducible refine below_drewN ?_ _) | (with_reducible refine Below.setCell ?_ ?_ _) | (with_reducible refine below_via ‹_› ?_ ?_) | (with_reducible refine below_grow ?_ ?_ _ _) | omega | (simp; done) | (simp; omega)))⟩
        case measure => simp [intOf]; omega
    · have HA := hid (hn.trans (str_all_end s plainCh k (by omega))); clear hn
      go_wp2
      all_goals
        go_ret
        exact ⟨ret_bool (by rw [HW.out, HA.out]; simp [inB]; omega), by (repeat' (first | (with_reducible exact Below.refl _ _) | (with_reducible refine Below.alloc ?_ ?_ _) | (with_reducible refine Below.drew ?_) | (with_reducible refine below_drewN ?_ _) | (with_reducible refine Below.setCell ?_ ?_ _) | (with_reducible refine below_via ‹_› ?_ ?_) | (with_reducible refine below_grow ?_ ?_ _ _) | omega | (simp; done) | (simp; omega)))⟩
theorem warnB_alt (n p f u x y r : Int) (s : ByteArray) : warnB n p f u x y r s = (inB n 1 9999 && inB p 1 3 && inB f 0 143999999 && inB u (f + 1) 143999999 && pointB x y && inB r 0 20000 && inB (s.size : Int) 1 60 && plainB s) := by
  cases hf : inB f 0 143999999
  · simp [warnB, warnH, hf]
  · rw [upper_in hf]; simp [warnB, warnH, hf, Bool.and_assoc]
set_option maxHeartbeats 1000000 in
theorem c_ValidWarning (n p f u x y r : Int) (s : ByteArray) (w : World) (hs : s.size ≤ maxLen) :
    Calls Tryd.prog 39 #[.agg #[.int .i64 n, .int .i64 p, .int .i64 f, .int .i64 u, .int .i64 x, .int .i64 y, .int .i64 r, .string s]] w fun e w' => e = .returned (.bool (warnB n p f u x y r s)) ∧ Below w.heap.size w w' := by
  have hs' := hs
  unfold maxLen at hs'
  cases hq1 : inB n 1 9999
  · go_enter Tryd.func39, Tryd.ntmps39
    go_wp2_with (first | (go_at_call 72; refine (c_isNumber _ _).mono ?_; rintro e w' ⟨rfl, rfl⟩) | (go_at_call 73; refine (c_within _ _ _ _).mono ?_; rintro e w' ⟨rfl, rfl⟩) | (go_at_call 74; refine (c_isTime _ _).mono ?_; rintro e w' ⟨rfl, rfl⟩) | (go_at_call 75; refine (c_ValidPoint _ _ _).mono ?_; rintro e w1 ⟨rfl, hb⟩; obtain ⟨hc, hf⟩ := bcell hb; have hz := hb.size; (try simp at hz); (try have hz0 : ∀ b, b < w.heap.size → b < w1.heap.size := fun b h => by omega); (try have hz1 : w.heap.size < w1.heap.size := by omega); (try have hz2 : w.heap.size + 1 < w1.heap.size := by omega); (try have hz3 : w.heap.size + 2 < w1.heap.size := by omega)) | (go_at_call 76; refine (c_isAway _ _).mono ?_; rintro e w' ⟨rfl, rfl⟩) | (go_at_call 77; refine (c_isPlain _ _ (by assumption)).mono ?_; rintro e w' ⟨rfl, rfl⟩))
    go_ret
    exact ⟨ret_bool (by rw [warnB_alt]; simp [*]), by (repeat' (first | (with_reducible exact Below.refl _ _) | (with_reducible refine Below.alloc ?_ ?_ _) | (with_reducible refine Below.drew ?_) | (with_reducible refine below_drewN ?_ _) | (with_reducible refine Below.setCell ?_ ?_ _) | (with_reducible refine below_via ‹_› ?_ ?_) | (with_reducible refine below_grow ?_ ?_ _ _) | omega | (simp; done) | (simp; omega)))⟩
  cases hq2 : inB p 1 3
  · go_enter Tryd.func39, Tryd.ntmps39
    go_wp2_with (first | (go_at_call 72; refine (c_isNumber _ _).mono ?_; rintro e w' ⟨rfl, rfl⟩) | (go_at_call 73; refine (c_within _ _ _ _).mono ?_; rintro e w' ⟨rfl, rfl⟩) | (go_at_call 74; refine (c_isTime _ _).mono ?_; rintro e w' ⟨rfl, rfl⟩) | (go_at_call 75; refine (c_ValidPoint _ _ _).mono ?_; rintro e w1 ⟨rfl, hb⟩; obtain ⟨hc, hf⟩ := bcell hb; have hz := hb.size; (try simp at hz); (try have hz0 : ∀ b, b < w.heap.size → b < w1.heap.size := fun b h => by omega); (try have hz1 : w.heap.size < w1.heap.size := by omega); (try have hz2 : w.heap.size + 1 < w1.heap.size := by omega); (try have hz3 : w.heap.size + 2 < w1.heap.size := by omega)) | (go_at_call 76; refine (c_isAway _ _).mono ?_; rintro e w' ⟨rfl, rfl⟩) | (go_at_call 77; refine (c_isPlain _ _ (by assumption)).mono ?_; rintro e w' ⟨rfl, rfl⟩))
    go_ret
    exact ⟨ret_bool (by rw [warnB_alt]; simp [*]), by (repeat' (first | (with_reducible exact Below.refl _ _) | (with_reducible refine Below.alloc ?_ ?_ _) | (with_reducible refine Below.drew ?_) | (with_reducible refine below_drewN ?_ _) | (with_reducible refine Below.setCell ?_ ?_ _) | (with_reducible refine below_via ‹_› ?_ ?_) | (with_reducible refine below_grow ?_ ?_ _ _) | omega | (simp; done) | (simp; omega)))⟩
  cases hq3 : inB f 0 143999999
  · go_enter Tryd.func39, Tryd.ntmps39
    go_wp2_with (first | (go_at_call 72; refine (c_isNumber _ _).mono ?_; rintro e w' ⟨rfl, rfl⟩) | (go_at_call 73; refine (c_within _ _ _ _).mono ?_; rintro e w' ⟨rfl, rfl⟩) | (go_at_call 74; refine (c_isTime _ _).mono ?_; rintro e w' ⟨rfl, rfl⟩) | (go_at_call 75; refine (c_ValidPoint _ _ _).mono ?_; rintro e w1 ⟨rfl, hb⟩; obtain ⟨hc, hf⟩ := bcell hb; have hz := hb.size; (try simp at hz); (try have hz0 : ∀ b, b < w.heap.size → b < w1.heap.size := fun b h => by omega); (try have hz1 : w.heap.size < w1.heap.size := by omega); (try have hz2 : w.heap.size + 1 < w1.heap.size := by omega); (try have hz3 : w.heap.size + 2 < w1.heap.size := by omega)) | (go_at_call 76; refine (c_isAway _ _).mono ?_; rintro e w' ⟨rfl, rfl⟩) | (go_at_call 77; refine (c_isPlain _ _ (by assumption)).mono ?_; rintro e w' ⟨rfl, rfl⟩))
    go_ret
    exact ⟨ret_bool (by rw [warnB_alt]; simp [*]), by (repeat' (first | (with_reducible exact Below.refl _ _) | (with_reducible refine Below.alloc ?_ ?_ _) | (with_reducible refine Below.drew ?_) | (with_reducible refine below_drewN ?_ _) | (with_reducible refine Below.setCell ?_ ?_ _) | (with_reducible refine below_via ‹_› ?_ ?_) | (with_reducible refine below_grow ?_ ?_ _ _) | omega | (simp; done) | (simp; omega)))⟩
  have e3 := inB_true hq3
  cases hq4 : inB u (f + 1) 143999999
  · go_enter Tryd.func39, Tryd.ntmps39
    go_wp2_with (first | (go_at_call 72; refine (c_isNumber _ _).mono ?_; rintro e w' ⟨rfl, rfl⟩) | (go_at_call 73; refine (c_within _ _ _ _).mono ?_; rintro e w' ⟨rfl, rfl⟩) | (go_at_call 74; refine (c_isTime _ _).mono ?_; rintro e w' ⟨rfl, rfl⟩) | (go_at_call 75; refine (c_ValidPoint _ _ _).mono ?_; rintro e w1 ⟨rfl, hb⟩; obtain ⟨hc, hf⟩ := bcell hb; have hz := hb.size; (try simp at hz); (try have hz0 : ∀ b, b < w.heap.size → b < w1.heap.size := fun b h => by omega); (try have hz1 : w.heap.size < w1.heap.size := by omega); (try have hz2 : w.heap.size + 1 < w1.heap.size := by omega); (try have hz3 : w.heap.size + 2 < w1.heap.size := by omega)) | (go_at_call 76; refine (c_isAway _ _).mono ?_; rintro e w' ⟨rfl, rfl⟩) | (go_at_call 77; refine (c_isPlain _ _ (by assumption)).mono ?_; rintro e w' ⟨rfl, rfl⟩))
    go_ret
    exact ⟨ret_bool (by rw [warnB_alt]; simp [*]), by (repeat' (first | (with_reducible exact Below.refl _ _) | (with_reducible refine Below.alloc ?_ ?_ _) | (with_reducible refine Below.drew ?_) | (with_reducible refine below_drewN ?_ _) | (with_reducible refine Below.setCell ?_ ?_ _) | (with_reducible refine below_via ‹_› ?_ ?_) | (with_reducible refine below_grow ?_ ?_ _ _) | omega | (simp; done) | (simp; omega)))⟩
  cases hq5 : pointB x y
  · go_enter Tryd.func39, Tryd.ntmps39
    go_wp2_with (first | (go_at_call 72; refine (c_isNumber _ _).mono ?_; rintro e w' ⟨rfl, rfl⟩) | (go_at_call 73; refine (c_within _ _ _ _).mono ?_; rintro e w' ⟨rfl, rfl⟩) | (go_at_call 74; refine (c_isTime _ _).mono ?_; rintro e w' ⟨rfl, rfl⟩) | (go_at_call 75; refine (c_ValidPoint _ _ _).mono ?_; rintro e w1 ⟨rfl, hb⟩; obtain ⟨hc, hf⟩ := bcell hb; have hz := hb.size; (try simp at hz); (try have hz0 : ∀ b, b < w.heap.size → b < w1.heap.size := fun b h => by omega); (try have hz1 : w.heap.size < w1.heap.size := by omega); (try have hz2 : w.heap.size + 1 < w1.heap.size := by omega); (try have hz3 : w.heap.size + 2 < w1.heap.size := by omega)) | (go_at_call 76; refine (c_isAway _ _).mono ?_; rintro e w' ⟨rfl, rfl⟩) | (go_at_call 77; refine (c_isPlain _ _ (by assumption)).mono ?_; rintro e w' ⟨rfl, rfl⟩))
    go_ret
    exact ⟨ret_bool (by rw [warnB_alt]; simp [*]), by (repeat' (first | (with_reducible exact Below.refl _ _) | (with_reducible refine Below.alloc ?_ ?_ _) | (with_reducible refine Below.drew ?_) | (with_reducible refine below_drewN ?_ _) | (with_reducible refine Below.setCell ?_ ?_ _) | (with_reducible refine below_via ‹_› ?_ ?_) | (with_reducible refine below_grow ?_ ?_ _ _) | omega | (simp; done) | (simp; omega)))⟩
  cases hq6 : inB r 0 20000
  · go_enter Tryd.func39, Tryd.ntmps39
    go_wp2_with (first | (go_at_call 72; refine (c_isNumber _ _).mono ?_; rintro e w' ⟨rfl, rfl⟩) | (go_at_call 73; refine (c_within _ _ _ _).mono ?_; rintro e w' ⟨rfl, rfl⟩) | (go_at_call 74; refine (c_isTime _ _).mono ?_; rintro e w' ⟨rfl, rfl⟩) | (go_at_call 75; refine (c_ValidPoint _ _ _).mono ?_; rintro e w1 ⟨rfl, hb⟩; obtain ⟨hc, hf⟩ := bcell hb; have hz := hb.size; (try simp at hz); (try have hz0 : ∀ b, b < w.heap.size → b < w1.heap.size := fun b h => by omega); (try have hz1 : w.heap.size < w1.heap.size := by omega); (try have hz2 : w.heap.size + 1 < w1.heap.size := by omega); (try have hz3 : w.heap.size + 2 < w1.heap.size := by omega)) | (go_at_call 76; refine (c_isAway _ _).mono ?_; rintro e w' ⟨rfl, rfl⟩) | (go_at_call 77; refine (c_isPlain _ _ (by assumption)).mono ?_; rintro e w' ⟨rfl, rfl⟩))
    go_ret
    exact ⟨ret_bool (by rw [warnB_alt]; simp [*]), by (repeat' (first | (with_reducible exact Below.refl _ _) | (with_reducible refine Below.alloc ?_ ?_ _) | (with_reducible refine Below.drew ?_) | (with_reducible refine below_drewN ?_ _) | (with_reducible refine Below.setCell ?_ ?_ _) | (with_reducible refine below_via ‹_› ?_ ?_) | (with_reducible refine below_grow ?_ ?_ _ _) | omega | (simp; done) | (simp; omega)))⟩
  cases hq7 : inB (s.size : Int) 1 60
  · go_enter Tryd.func39, Tryd.ntmps39
    go_wp2_with (first | (go_at_call 72; refine (c_isNumber _ _).mono ?_; rintro e w' ⟨rfl, rfl⟩) | (go_at_call 73; refine (c_within _ _ _ _).mono ?_; rintro e w' ⟨rfl, rfl⟩) | (go_at_call 74; refine (c_isTime _ _).mono ?_; rintro e w' ⟨rfl, rfl⟩) | (go_at_call 75; refine (c_ValidPoint _ _ _).mono ?_; rintro e w1 ⟨rfl, hb⟩; obtain ⟨hc, hf⟩ := bcell hb; have hz := hb.size; (try simp at hz); (try have hz0 : ∀ b, b < w.heap.size → b < w1.heap.size := fun b h => by omega); (try have hz1 : w.heap.size < w1.heap.size := by omega); (try have hz2 : w.heap.size + 1 < w1.heap.size := by omega); (try have hz3 : w.heap.size + 2 < w1.heap.size := by omega)) | (go_at_call 76; refine (c_isAway _ _).mono ?_; rintro e w' ⟨rfl, rfl⟩) | (go_at_call 77; refine (c_isPlain _ _ (by assumption)).mono ?_; rintro e w' ⟨rfl, rfl⟩))
    go_ret
    exact ⟨ret_bool (by rw [warnB_alt]; simp [*]), by (repeat' (first | (with_reducible exact Below.refl _ _) | (with_reducible refine Below.alloc ?_ ?_ _) | (with_reducible refine Below.drew ?_) | (with_reducible refine below_drewN ?_ _) | (with_reducible refine Below.setCell ?_ ?_ _) | (with_reducible refine below_via ‹_› ?_ ?_) | (with_reducible refine below_grow ?_ ?_ _ _) | omega | (simp; done) | (simp; omega)))⟩
  cases hq8 : plainB s
  · go_enter Tryd.func39, Tryd.ntmps39
    go_wp2_with (first | (go_at_call 72; refine (c_isNumber _ _).mono ?_; rintro e w' ⟨rfl, rfl⟩) | (go_at_call 73; refine (c_within _ _ _ _).mono ?_; rintro e w' ⟨rfl, rfl⟩) | (go_at_call 74; refine (c_isTime _ _).mono ?_; rintro e w' ⟨rfl, rfl⟩) | (go_at_call 75; refine (c_ValidPoint _ _ _).mono ?_; rintro e w1 ⟨rfl, hb⟩; obtain ⟨hc, hf⟩ := bcell hb; have hz := hb.size; (try simp at hz); (try have hz0 : ∀ b, b < w.heap.size → b < w1.heap.size := fun b h => by omega); (try have hz1 : w.heap.size < w1.heap.size := by omega); (try have hz2 : w.heap.size + 1 < w1.heap.size := by omega); (try have hz3 : w.heap.size + 2 < w1.heap.size := by omega)) | (go_at_call 76; refine (c_isAway _ _).mono ?_; rintro e w' ⟨rfl, rfl⟩) | (go_at_call 77; refine (c_isPlain _ _ (by assumption)).mono ?_; rintro e w' ⟨rfl, rfl⟩))
    go_ret
    exact ⟨ret_bool (by rw [warnB_alt]; simp [*]), by (repeat' (first | (with_reducible exact Below.refl _ _) | (with_reducible refine Below.alloc ?_ ?_ _) | (with_reducible refine Below.drew ?_) | (with_reducible refine below_drewN ?_ _) | (with_reducible refine Below.setCell ?_ ?_ _) | (with_reducible refine below_via ‹_› ?_ ?_) | (with_reducible refine below_grow ?_ ?_ _ _) | omega | (simp; done) | (simp; omega)))⟩
  go_enter Tryd.func39, Tryd.ntmps39
  go_wp2_with (first | (go_at_call 72; refine (c_isNumber _ _).mono ?_; rintro e w' ⟨rfl, rfl⟩) | (go_at_call 73; refine (c_within _ _ _ _).mono ?_; rintro e w' ⟨rfl, rfl⟩) | (go_at_call 74; refine (c_isTime _ _).mono ?_; rintro e w' ⟨rfl, rfl⟩) | (go_at_call 75; refine (c_ValidPoint _ _ _).mono ?_; rintro e w1 ⟨rfl, hb⟩; obtain ⟨hc, hf⟩ := bcell hb; have hz := hb.size; (try simp at hz); (try have hz0 : ∀ b, b < w.heap.size → b < w1.heap.size := fun b h => by omega); (try have hz1 : w.heap.size < w1.heap.size := by omega); (try have hz2 : w.heap.size + 1 < w1.heap.size := by omega); (try have hz3 : w.heap.size + 2 < w1.heap.size := by omega)) | (go_at_call 76; refine (c_isAway _ _).mono ?_; rintro e w' ⟨rfl, rfl⟩) | (go_at_call 77; refine (c_isPlain _ _ (by assumption)).mono ?_; rintro e w' ⟨rfl, rfl⟩))
  go_ret
  exact ⟨ret_bool (by rw [warnB_alt]; simp [*]), by (repeat' (first | (with_reducible exact Below.refl _ _) | (with_reducible refine Below.alloc ?_ ?_ _) | (with_reducible refine Below.drew ?_) | (with_reducible refine below_drewN ?_ _) | (with_reducible refine Below.setCell ?_ ?_ _) | (with_reducible refine below_via ‹_› ?_ ?_) | (with_reducible refine below_grow ?_ ?_ _ _) | omega | (simp; done) | (simp; omega)))⟩

/-! ### lists -/
def numAt (xs : List WarningD) (k : Nat) : Int := match xs[k]? with | some x => x.fNumber | none => 0
theorem numAt_get (xs : List WarningD) (k : Nat) (h : k < xs.length) : numAt xs k = xs[k].fNumber := by simp [numAt, h]
def stepN (xs : List WarningD) (k : Nat) : Bool := oneAt warnD xs k && (decide (k = 0) || decide (numAt xs (k - 1) < numAt xs k))
def warnsB (xs : List WarningD) : Bool := allB (stepN xs) xs.length && decide ((xs.length : Int) ≤ 32)
theorem stepN_zero (xs : List WarningD) (h : 0 < xs.length) : stepN xs 0 = warnD xs[0] := by simp [stepN, oneAt_get warnD xs 0 h]
theorem stepN_pos (xs : List WarningD) (k : Nat) (h : k < xs.length) (h0 : 0 < k) : stepN xs k = (warnD xs[k] && decide (xs[k - 1].fNumber < xs[k].fNumber)) := by
  simp [stepN, oneAt_get warnD xs k h, numAt_get xs k h, numAt_get xs (k - 1) (by omega), show k ≠ 0 by omega]
end Go.Proofs.YtocpgnpdnoidnaaDoor
