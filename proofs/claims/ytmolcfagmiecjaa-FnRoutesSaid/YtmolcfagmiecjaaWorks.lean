/- Lists of works: validity, on both sides. -/
import Derived.Test.YtmolcfagmiecjaaWork
import Derived.Test.YtmolcfagmiecjaaTInt64
namespace Go.Proofs.Ytmolcfagmiecjaa
open Go.RowKit Go.Sort
set_option maxRecDepth 100000

def workD (d : WorkD) : Bool := workB d.fName d.fAtX d.fAtY d.fLoad d.fMinutes d.fFrom d.fUntil
def worksB (xs : List WorkD) : Bool := risesB workD WorkD.fName 12 xs
set_option maxHeartbeats 2000000 in
theorem c_l25List (v : Value) (xs : List WorkD) (w : World) (h : SlA w 0 7 encWork v xs) (hok : ∀ x ∈ xs, okWork x) :
    Calls Try.prog 61 #[v] w fun e w' => e = .returned (.bool (worksB xs)) ∧ Below w.heap.size w w' := by
  obtain ⟨ad, cap, b, off, rfl, hm, had, hx⟩ := h.uni
  go_enter Try.func61, Try.ntmps61
  go_wp2
  go_loopw [3] (fun i wr => ∃ k : Nat, k ≤ xs.length ∧ i = .int .i64 k ∧ (∀ i, i < k → stepB workD WorkD.fName xs i = true) ∧ Below w.heap.size w wr) (fun i _ => xs.length - (intOf i).toNat)
  case atStart => exact ⟨0, Nat.zero_le _, rfl, fun i hi => by omega, by (repeat' (first | (with_reducible exact Below.refl _ _) | (with_reducible refine Below.alloc ?_ ?_ _) | (with_reducible refine Below.drew ?_) | (with_reducible refine below_drewN ?_ _) | (with_reducible refine Below.setCell ?_ ?_ _) | (with_reducible refine below_via ‹_› ?_ ?_) | (with_reducible refine below_grow ?_ ?_ _ _) | omega | (simp; done) | (simp; omega)))⟩
  case round =>
    obtain ⟨k, hk, rfl, ha, hB⟩ := hrel
    have HA := hid ha; clear ha
    have hzr := hB.size
    by_cases hlt : k < xs.length
    · have hlI : (k : Int) < xs.length := by omega
      obtain ⟨rfl, hbb, -, hcc, hmc⟩ := had (by omega)
      have hbr : b < wr.heap.size := by omega
      have g0 := (hB.cell (p := ⟨b, off + k * 7 + 0, none⟩) hbb).trans (hx k hlt 0 (by omega))
      have g1 := (hB.cell (p := ⟨b, off + k * 7 + 1, none⟩) hbb).trans (hx k hlt 1 (by omega))
      have g2 := (hB.cell (p := ⟨b, off + k * 7 + 2, none⟩) hbb).trans (hx k hlt 2 (by omega))
      have g3 := (hB.cell (p := ⟨b, off + k * 7 + 3, none⟩) hbb).trans (hx k hlt 3 (by omega))
      have g4 := (hB.cell (p := ⟨b, off + k * 7 + 4, none⟩) hbb).trans (hx k hlt 4 (by omega))
      have g5 := (hB.cell (p := ⟨b, off + k * 7 + 5, none⟩) hbb).trans (hx k hlt 5 (by omega))
      have g6 := (hB.cell (p := ⟨b, off + k * 7 + 6, none⟩) hbb).trans (hx k hlt 6 (by omega))
      simp only [encWork, List.getD_cons_zero, List.getD_cons_succ, Nat.add_zero] at g0 g1 g2 g3 g4 g5 g6
      have o1 : xs[k].fName.size ≤ maxLen := (hok xs[k] (List.getElem_mem hlt)).1
      by_cases hk0 : k = 0
      · subst hk0
        have HS := hid (stepB_zero workD WorkD.fName xs hlt)
        simp only [Nat.zero_mul, Nat.add_zero] at g0 g1 g2 g3 g4 g5 g6
        clear hx
        have r0 := cellr g0
        have r1 := cellr g1
        have r2 := cellr g2
        have r3 := cellr g3
        have r4 := cellr g4
        have r5 := cellr g5
        have r6 := cellr g6
        cases hq1 : workB xs[0].fName xs[0].fAtX xs[0].fAtY xs[0].fLoad xs[0].fMinutes xs[0].fFrom xs[0].fUntil
        · go_wp2
          (refine wp_region_quiet_below (by kernel_rfl) (by kernel_rfl) ?_; (repeat (first | go_big_quiet_step ((first | (go_at_call 100; exact regrown_bool (c_l25Work _ _ xs[0].fName xs[0].fAtX xs[0].fAtY xs[0].fLoad xs[0].fMinutes xs[0].fFrom xs[0].fUntil _ (lt_regrown hbr _ _) o1 (r0 _ _) (r1 _ _) (r2 _ _) (r3 _ _) (r4 _ _) (r5 _ _) (r6 _ _)) (by assumption)))) | quiet_step ((first | (go_at_call 100; exact regrown_bool (c_l25Work _ _ xs[0].fName xs[0].fAtX xs[0].fAtY xs[0].fLoad xs[0].fMinutes xs[0].fFrom xs[0].fUntil _ (lt_regrown hbr _ _) o1 (r0 _ _) (r1 _ _) (r2 _ _) (r3 _ _) (r4 _ _) (r5 _ _) (r6 _ _)) (by assumption)))))); refine wpQuiet_nil ?_; intro w1 hw'; have hb := below_of_regrown hw'; clear hw'; obtain ⟨hc, hf⟩ := bcell hb; have hz := hb.size; (try simp at hz); (try have hz0 : ∀ b, b < w.heap.size → b < w1.heap.size := fun b h => by omega); (try have hz1 : w.heap.size < w1.heap.size := by omega); (try have hz2 : w.heap.size + 1 < w1.heap.size := by omega); (try have hz3 : w.heap.size + 2 < w1.heap.size := by omega))
          go_wp2
          first
            | (go_ret; exact ⟨ret_bool (by rw [worksB, risesB, allB_false (k := 0) (by rw [HS.out]; simp [workD, *]) hlt]; rfl), by (repeat' (first | (with_reducible exact Below.refl _ _) | (with_reducible refine Below.alloc ?_ ?_ _) | (with_reducible refine Below.drew ?_) | (with_reducible refine below_drewN ?_ _) | (with_reducible refine Below.setCell ?_ ?_ _) | (with_reducible refine below_via ‹_› ?_ ?_) | (with_reducible refine below_grow ?_ ?_ _ _) | omega | (simp; done) | (simp; omega)))⟩)
            | (go_roundw
               case rel => exact ⟨1, by omega, rfl, all_one (by rw [HS.out]; exact hq1), by (repeat' (first | (with_reducible exact Below.refl _ _) | (with_reducible refine Below.alloc ?_ ?_ _) | (with_reducible refine Below.drew ?_) | (with_reducible refine below_drewN ?_ _) | (with_reducible refine Below.setCell ?_ ?_ _) | (with_reducible refine below_via ‹_› ?_ ?_) | (with_reducible refine below_grow ?_ ?_ _ _) | omega | (simp; done) | (simp; omega)))⟩
               case measure => simp [intOf]; omega)
        go_wp2
        (refine wp_region_quiet_below (by kernel_rfl) (by kernel_rfl) ?_; (repeat (first | go_big_quiet_step ((first | (go_at_call 100; exact regrown_bool (c_l25Work _ _ xs[0].fName xs[0].fAtX xs[0].fAtY xs[0].fLoad xs[0].fMinutes xs[0].fFrom xs[0].fUntil _ (lt_regrown hbr _ _) o1 (r0 _ _) (r1 _ _) (r2 _ _) (r3 _ _) (r4 _ _) (r5 _ _) (r6 _ _)) (by assumption)))) | quiet_step ((first | (go_at_call 100; exact regrown_bool (c_l25Work _ _ xs[0].fName xs[0].fAtX xs[0].fAtY xs[0].fLoad xs[0].fMinutes xs[0].fFrom xs[0].fUntil _ (lt_regrown hbr _ _) o1 (r0 _ _) (r1 _ _) (r2 _ _) (r3 _ _) (r4 _ _) (r5 _ _) (r6 _ _)) (by assumption)))))); refine wpQuiet_nil ?_; intro w1 hw'; have hb := below_of_regrown hw'; clear hw'; obtain ⟨hc, hf⟩ := bcell hb; have hz := hb.size; (try simp at hz); (try have hz0 : ∀ b, b < w.heap.size → b < w1.heap.size := fun b h => by omega); (try have hz1 : w.heap.size < w1.heap.size := by omega); (try have hz2 : w.heap.size + 1 < w1.heap.size := by omega); (try have hz3 : w.heap.size + 2 < w1.heap.size := by omega))
        go_wp2
        first
          | (go_ret; exact ⟨ret_bool (by rw [worksB, risesB, allB_false (k := 0) (by rw [HS.out]; simp [workD, *]) hlt]; rfl), by (repeat' (first | (with_reducible exact Below.refl _ _) | (with_reducible refine Below.alloc ?_ ?_ _) | (with_reducible refine Below.drew ?_) | (with_reducible refine below_drewN ?_ _) | (with_reducible refine Below.setCell ?_ ?_ _) | (with_reducible refine below_via ‹_› ?_ ?_) | (with_reducible refine below_grow ?_ ?_ _ _) | omega | (simp; done) | (simp; omega)))⟩)
          | (go_roundw
             case rel => exact ⟨1, by omega, rfl, all_one (by rw [HS.out]; exact hq1), by (repeat' (first | (with_reducible exact Below.refl _ _) | (with_reducible refine Below.alloc ?_ ?_ _) | (with_reducible refine Below.drew ?_) | (with_reducible refine below_drewN ?_ _) | (with_reducible refine Below.setCell ?_ ?_ _) | (with_reducible refine below_via ‹_› ?_ ?_) | (with_reducible refine below_grow ?_ ?_ _ _) | omega | (simp; done) | (simp; omega)))⟩
             case measure => simp [intOf]; omega)
      · have hkI : (0 : Int) < k := by omega
        have hkd : decide (0 < k) = true := by simp; omega
        have hk1 : (1 : Int) ≤ k := by omega
        have hk2 : (k : Int) - 1 < xs.length := by omega
        have hkn := pred_nat (k := k) (by omega)
        have hkw := pred_wrap (k := k) (n := xs.length) (by omega) (by omega) hm
        have HS := hid (stepB_pos workD WorkD.fName xs k hlt (by omega))
        have p0 := (hB.cell (p := ⟨b, off + (k - 1) * 7 + 0, none⟩) hbb).trans (hx (k - 1) (by omega) 0 (by omega))
        simp only [encWork, List.getD_cons_zero, Nat.add_zero] at p0
        clear hx
        have r0 := cellr g0
        have r1 := cellr g1
        have r2 := cellr g2
        have r3 := cellr g3
        have r4 := cellr g4
        have r5 := cellr g5
        have r6 := cellr g6
        have r7 := cellr p0
        cases hq1 : workB xs[k].fName xs[k].fAtX xs[k].fAtY xs[k].fLoad xs[k].fMinutes xs[k].fFrom xs[k].fUntil
        · go_wp2
          (refine wp_region_quiet_below (by kernel_rfl) (by kernel_rfl) ?_; (repeat (first | go_big_quiet_step ((first | (go_at_call 100; exact regrown_bool (c_l25Work _ _ xs[k].fName xs[k].fAtX xs[k].fAtY xs[k].fLoad xs[k].fMinutes xs[k].fFrom xs[k].fUntil _ (lt_regrown hbr _ _) o1 (r0 _ _) (r1 _ _) (r2 _ _) (r3 _ _) (r4 _ _) (r5 _ _) (r6 _ _)) (by assumption)))) | quiet_step ((first | (go_at_call 100; exact regrown_bool (c_l25Work _ _ xs[k].fName xs[k].fAtX xs[k].fAtY xs[k].fLoad xs[k].fMinutes xs[k].fFrom xs[k].fUntil _ (lt_regrown hbr _ _) o1 (r0 _ _) (r1 _ _) (r2 _ _) (r3 _ _) (r4 _ _) (r5 _ _) (r6 _ _)) (by assumption)))))); refine wpQuiet_nil ?_; intro w1 hw'; have hb := below_of_regrown hw'; clear hw'; obtain ⟨hc, hf⟩ := bcell hb; have hz := hb.size; (try simp at hz); (try have hz0 : ∀ b, b < w.heap.size → b < w1.heap.size := fun b h => by omega); (try have hz1 : w.heap.size < w1.heap.size := by omega); (try have hz2 : w.heap.size + 1 < w1.heap.size := by omega); (try have hz3 : w.heap.size + 2 < w1.heap.size := by omega))
          go_wp2
          first
            | (go_ret; exact ⟨ret_bool (by rw [worksB, risesB, allB_false (k := k) (by rw [HS.out]; simp [workD, *]) hlt]; rfl), by (repeat' (first | (with_reducible exact Below.refl _ _) | (with_reducible refine Below.alloc ?_ ?_ _) | (with_reducible refine Below.drew ?_) | (with_reducible refine below_drewN ?_ _) | (with_reducible refine Below.setCell ?_ ?_ _) | (with_reducible refine below_via ‹_› ?_ ?_) | (with_reducible refine below_grow ?_ ?_ _ _) | omega | (simp; done) | (simp; omega)))⟩)
            | (go_roundw
               case rel => exact ⟨k + 1, by omega, by go_num, all_snoc HA.out (by rw [HS.out]; simp [workD, *]), by (repeat' (first | (with_reducible exact Below.refl _ _) | (with_reducible refine Below.alloc ?_ ?_ _) | (with_reducible refine Below.drew ?_) | (with_reducible refine below_drewN ?_ _) | (with_reducible refine Below.setCell ?_ ?_ _) | (with_reducible refine below_via ‹_› ?_ ?_) | (with_reducible refine below_grow ?_ ?_ _ _) | omega | (simp; done) | (simp; omega)))⟩
               case measure => simp [intOf]; omega)
        cases hq2 : Op.bytesLess xs[k - 1].fName.toList xs[k].fName.toList
        · go_wp2
          (refine wp_region_quiet_below (by kernel_rfl) (by kernel_rfl) ?_; (repeat (first | go_big_quiet_step ((first | (go_at_call 100; exact regrown_bool (c_l25Work _ _ xs[k].fName xs[k].fAtX xs[k].fAtY xs[k].fLoad xs[k].fMinutes xs[k].fFrom xs[k].fUntil _ (lt_regrown hbr _ _) o1 (r0 _ _) (r1 _ _) (r2 _ _) (r3 _ _) (r4 _ _) (r5 _ _) (r6 _ _)) (by assumption)))) | quiet_step ((first | (go_at_call 100; exact regrown_bool (c_l25Work _ _ xs[k].fName xs[k].fAtX xs[k].fAtY xs[k].fLoad xs[k].fMinutes xs[k].fFrom xs[k].fUntil _ (lt_regrown hbr _ _) o1 (r0 _ _) (r1 _ _) (r2 _ _) (r3 _ _) (r4 _ _) (r5 _ _) (r6 _ _)) (by assumption)))))); refine wpQuiet_nil ?_; intro w1 hw'; have hb := below_of_regrown hw'; clear hw'; obtain ⟨hc, hf⟩ := bcell hb; have hz := hb.size; (try simp at hz); (try have hz0 : ∀ b, b < w.heap.size → b < w1.heap.size := fun b h => by omega); (try have hz1 : w.heap.size < w1.heap.size := by omega); (try have hz2 : w.heap.size + 1 < w1.heap.size := by omega); (try have hz3 : w.heap.size + 2 < w1.heap.size := by omega))
          go_wp2
          first
            | (go_ret; exact ⟨ret_bool (by rw [worksB, risesB, allB_false (k := k) (by rw [HS.out]; simp [workD, *]) hlt]; rfl), by (repeat' (first | (with_reducible exact Below.refl _ _) | (with_reducible refine Below.alloc ?_ ?_ _) | (with_reducible refine Below.drew ?_) | (with_reducible refine below_drewN ?_ _) | (with_reducible refine Below.setCell ?_ ?_ _) | (with_reducible refine below_via ‹_› ?_ ?_) | (with_reducible refine below_grow ?_ ?_ _ _) | omega | (simp; done) | (simp; omega)))⟩)
            | (go_roundw
               case rel => exact ⟨k + 1, by omega, by go_num, all_snoc HA.out (by rw [HS.out]; simp [workD, *]), by (repeat' (first | (with_reducible exact Below.refl _ _) | (with_reducible refine Below.alloc ?_ ?_ _) | (with_reducible refine Below.drew ?_) | (with_reducible refine below_drewN ?_ _) | (with_reducible refine Below.setCell ?_ ?_ _) | (with_reducible refine below_via ‹_› ?_ ?_) | (with_reducible refine below_grow ?_ ?_ _ _) | omega | (simp; done) | (simp; omega)))⟩
               case measure => simp [intOf]; omega)
        go_wp2
        (refine wp_region_quiet_below (by kernel_rfl) (by kernel_rfl) ?_; (repeat (first | go_big_quiet_step ((first | (go_at_call 100; exact regrown_bool (c_l25Work _ _ xs[k].fName xs[k].fAtX xs[k].fAtY xs[k].fLoad xs[k].fMinutes xs[k].fFrom xs[k].fUntil _ (lt_regrown hbr _ _) o1 (r0 _ _) (r1 _ _) (r2 _ _) (r3 _ _) (r4 _ _) (r5 _ _) (r6 _ _)) (by assumption)))) | quiet_step ((first | (go_at_call 100; exact regrown_bool (c_l25Work _ _ xs[k].fName xs[k].fAtX xs[k].fAtY xs[k].fLoad xs[k].fMinutes xs[k].fFrom xs[k].fUntil _ (lt_regrown hbr _ _) o1 (r0 _ _) (r1 _ _) (r2 _ _) (r3 _ _) (r4 _ _) (r5 _ _) (r6 _ _)) (by assumption)))))); refine wpQuiet_nil ?_; intro w1 hw'; have hb := below_of_regrown hw'; clear hw'; obtain ⟨hc, hf⟩ := bcell hb; have hz := hb.size; (try simp at hz); (try have hz0 : ∀ b, b < w.heap.size → b < w1.heap.size := fun b h => by omega); (try have hz1 : w.heap.size < w1.heap.size := by omega); (try have hz2 : w.heap.size + 1 < w1.heap.size := by omega); (try have hz3 : w.heap.size + 2 < w1.heap.size := by omega))
        go_wp2
        first
          | (go_ret; exact ⟨ret_bool (by rw [worksB, risesB, allB_false (k := k) (by rw [HS.out]; simp [workD, *]) hlt]; rfl), by (repeat' (first | (with_reducible exact Below.refl _ _) | (with_reducible refine Below.alloc ?_ ?_ _) | (with_reducible refine Below.drew ?_) | (with_reducible refine below_drewN ?_ _) | (with_reducible refine Below.setCell ?_ ?_ _) | (with_reducible refine below_via ‹_› ?_ ?_) | (with_reducible refine below_grow ?_ ?_ _ _) | omega | (simp; done) | (simp; omega)))⟩)
          | (go_roundw
             case rel => exact ⟨k + 1, by omega, by go_num, all_snoc HA.out (by rw [HS.out]; simp [workD, *]), by (repeat' (first | (with_reducible exact Below.refl _ _) | (with_reducible refine Below.alloc ?_ ?_ _) | (with_reducible refine Below.drew ?_) | (with_reducible refine below_drewN ?_ _) | (with_reducible refine Below.setCell ?_ ?_ _) | (with_reducible refine below_via ‹_› ?_ ?_) | (with_reducible refine below_grow ?_ ?_ _ _) | omega | (simp; done) | (simp; omega)))⟩
             case measure => simp [intOf]; omega)
    · have HR := hid (show worksB xs = decide ((xs.length : Int) ≤ 12) by rw [worksB, risesB, allB_true (fun i hi => HA.out i (by omega))]; rfl)
      clear hx
      go_wp2
      go_ret
      exact ⟨ret_bool HR.out.symm, by (repeat' (first | (with_reducible exact Below.refl _ _) | (with_reducible refine Below.alloc ?_ ?_ _) | (with_reducible refine Below.drew ?_) | (with_reducible refine below_drewN ?_ _) | (with_reducible refine Below.setCell ?_ ?_ _) | (with_reducible refine below_via ‹_› ?_ ?_) | (with_reducible refine below_grow ?_ ?_ _ _) | omega | (simp; done) | (simp; omega)))⟩
theorem c_spec_ValidWorks (v : Value) (xs : List WorkD) (w : World) (h : SlA w 0 7 encWork v xs) (hok : ∀ x ∈ xs, okWork x) :
    Calls Try.prog 27 #[v] w fun e w' => e = .returned (.bool (worksB xs)) ∧ Below w.heap.size w w' := by
  go_enter Try.func27, Try.ntmps27
  go_wp2_with (first | (go_at_call 61; refine (c_l25List _ _ _ (by first | (with_reducible assumption) | (with_reducible apply SlO.at; (with_reducible assumption); (repeat' (first | (with_reducible exact Below.refl _ _) | (with_reducible refine Below.alloc ?_ ?_ _) | (with_reducible refine Below.drew ?_) | (with_reducible refine below_drewN ?_ _) | (with_reducible refine Below.setCell ?_ ?_ _) | (with_reducible refine below_via ‹_› ?_ ?_) | (with_reducible refine below_grow ?_ ?_ _ _) | omega | (simp; done) | (simp; omega))); done) | (with_reducible apply SlA.at; (with_reducible assumption); (repeat' (first | (with_reducible exact Below.refl _ _) | (with_reducible refine Below.alloc ?_ ?_ _) | (with_reducible refine Below.drew ?_) | (with_reducible refine below_drewN ?_ _) | (with_reducible refine Below.setCell ?_ ?_ _) | (with_reducible refine below_via ‹_› ?_ ?_) | (with_reducible refine below_grow ?_ ?_ _ _) | omega | (simp; done) | (simp; omega))); done)) (by assumption)).mono ?_; rintro e w1 ⟨rfl, hb⟩; obtain ⟨hc, hf⟩ := bcell hb; have hz := hb.size; (try simp at hz); (try have hz0 : ∀ b, b < w.heap.size → b < w1.heap.size := fun b h => by omega); (try have hz1 : w.heap.size < w1.heap.size := by omega); (try have hz2 : w.heap.size + 1 < w1.heap.size := by omega); (try have hz3 : w.heap.size + 2 < w1.heap.size := by omega)))
  go_ret
  exact ⟨rfl, by (repeat' (first | (with_reducible exact Below.refl _ _) | (with_reducible refine Below.alloc ?_ ?_ _) | (with_reducible refine Below.drew ?_) | (with_reducible refine below_drewN ?_ _) | (with_reducible refine Below.setCell ?_ ?_ _) | (with_reducible refine below_via ‹_› ?_ ?_) | (with_reducible refine below_grow ?_ ?_ _ _) | omega | (simp; done) | (simp; omega)))⟩
set_option maxHeartbeats 2000000 in
theorem c_impl_ValidWorks (v : Value) (xs : List WorkD) (w : World) (h : SlA w 0 7 encWork v xs) (hok : ∀ x ∈ xs, okWork x) :
    Calls Try.prog 29 #[v] w fun e w' => e = .returned (.bool (worksB xs)) ∧ Below w.heap.size w w' := by
  obtain ⟨ad, cap, b, off, rfl, hm, had, hx⟩ := h.uni
  go_enter Try.func29, Try.ntmps29
  go_wp2
  go_loopw [7] (fun i wr => ∃ k : Nat, k ≤ xs.length ∧ i = .int .i64 k ∧ (∀ i, i < k → stepB workD WorkD.fName xs i = true) ∧ Below w.heap.size w wr) (fun i _ => xs.length - (intOf i).toNat)
  case atStart => exact ⟨0, Nat.zero_le _, rfl, fun i hi => by omega, by (repeat' (first | (with_reducible exact Below.refl _ _) | (with_reducible refine Below.alloc ?_ ?_ _) | (with_reducible refine Below.drew ?_) | (with_reducible refine below_drewN ?_ _) | (with_reducible refine Below.setCell ?_ ?_ _) | (with_reducible refine below_via ‹_› ?_ ?_) | (with_reducible refine below_grow ?_ ?_ _ _) | omega | (simp; done) | (simp; omega)))⟩
  case round =>
    obtain ⟨k, hk, rfl, ha, hB⟩ := hrel
    have HA := hid ha; clear ha
    have hzr := hB.size
    by_cases hlt : k < xs.length
    · have hlI : (k : Int) < xs.length := by omega
      obtain ⟨rfl, hbb, -, hcc, hmc⟩ := had (by omega)
      have hbr : b < wr.heap.size := by omega
      have g0 := (hB.cell (p := ⟨b, off + k * 7 + 0, none⟩) hbb).trans (hx k hlt 0 (by omega))
      have g1 := (hB.cell (p := ⟨b, off + k * 7 + 1, none⟩) hbb).trans (hx k hlt 1 (by omega))
      have g2 := (hB.cell (p := ⟨b, off + k * 7 + 2, none⟩) hbb).trans (hx k hlt 2 (by omega))
      have g3 := (hB.cell (p := ⟨b, off + k * 7 + 3, none⟩) hbb).trans (hx k hlt 3 (by omega))
      have g4 := (hB.cell (p := ⟨b, off + k * 7 + 4, none⟩) hbb).trans (hx k hlt 4 (by omega))
      have g5 := (hB.cell (p := ⟨b, off + k * 7 + 5, none⟩) hbb).trans (hx k hlt 5 (by omega))
      have g6 := (hB.cell (p := ⟨b, off + k * 7 + 6, none⟩) hbb).trans (hx k hlt 6 (by omega))
      simp only [encWork, List.getD_cons_zero, List.getD_cons_succ, Nat.add_zero] at g0 g1 g2 g3 g4 g5 g6
      have o1 : xs[k].fName.size ≤ maxLen := (hok xs[k] (List.getElem_mem hlt)).1
      by_cases hk0 : k = 0
      · subst hk0
        have HS := hid (stepB_zero workD WorkD.fName xs hlt)
        simp only [Nat.zero_mul, Nat.add_zero] at g0 g1 g2 g3 g4 g5 g6
        clear hx
        go_wp2
        obtain ⟨w1, hw1⟩ : ∃ x, x = wr.alloc (Obj.cells #[.string xs[0].fName, .int .i64 xs[0].fAtX, .int .i64 xs[0].fAtY, .int .i64 xs[0].fLoad, .int .i64 xs[0].fMinutes, .int .i64 xs[0].fFrom, .int .i64 xs[0].fUntil] 44) := ⟨_, rfl⟩
        rw [← hw1]
        have r0 := cellr (show w1.cell? ⟨wr.heap.size, 0, none⟩ = some (.string xs[0].fName) by rw [hw1]; simp [go_sem])
        have r1 := cellr (show w1.cell? ⟨wr.heap.size, 1, none⟩ = some (.int .i64 xs[0].fAtX) by rw [hw1]; simp [go_sem])
        have r2 := cellr (show w1.cell? ⟨wr.heap.size, 2, none⟩ = some (.int .i64 xs[0].fAtY) by rw [hw1]; simp [go_sem])
        have r3 := cellr (show w1.cell? ⟨wr.heap.size, 3, none⟩ = some (.int .i64 xs[0].fLoad) by rw [hw1]; simp [go_sem])
        have r4 := cellr (show w1.cell? ⟨wr.heap.size, 4, none⟩ = some (.int .i64 xs[0].fMinutes) by rw [hw1]; simp [go_sem])
        have r5 := cellr (show w1.cell? ⟨wr.heap.size, 5, none⟩ = some (.int .i64 xs[0].fFrom) by rw [hw1]; simp [go_sem])
        have r6 := cellr (show w1.cell? ⟨wr.heap.size, 6, none⟩ = some (.int .i64 xs[0].fUntil) by rw [hw1]; simp [go_sem])
        have hB1 : Below w.heap.size w w1 := hw1 ▸ (by (repeat' (first | (with_reducible exact Below.refl _ _) | (with_reducible refine Below.alloc ?_ ?_ _) | (with_reducible refine Below.drew ?_) | (with_reducible refine below_drewN ?_ _) | (with_reducible refine Below.setCell ?_ ?_ _) | (with_reducible refine below_via ‹_› ?_ ?_) | (with_reducible refine below_grow ?_ ?_ _ _) | omega | (simp; done) | (simp; omega))))
        have hz1 := hB1.size
        clear hw1
        cases hq1 : workB xs[0].fName xs[0].fAtX xs[0].fAtY xs[0].fLoad xs[0].fMinutes xs[0].fFrom xs[0].fUntil
        · (refine wp_region_quiet_below (by kernel_rfl) (by kernel_rfl) ?_; (repeat (first | go_big_quiet_step ((first | (go_at_call 76; exact regrown_bool (c_impl_ValidWork xs[0].fName xs[0].fAtX xs[0].fAtY xs[0].fLoad xs[0].fMinutes xs[0].fFrom xs[0].fUntil _ o1) (by assumption)))) | quiet_step ((first | (go_at_call 76; exact regrown_bool (c_impl_ValidWork xs[0].fName xs[0].fAtX xs[0].fAtY xs[0].fLoad xs[0].fMinutes xs[0].fFrom xs[0].fUntil _ o1) (by assumption)))))); refine wpQuiet_nil ?_; intro w1 hw'; have hb := below_of_regrown hw'; clear hw'; obtain ⟨hc, hf⟩ := bcell hb; have hz := hb.size; (try simp at hz); (try have hz0 : ∀ b, b < w.heap.size → b < w1.heap.size := fun b h => by omega); (try have hz1 : w.heap.size < w1.heap.size := by omega); (try have hz2 : w.heap.size + 1 < w1.heap.size := by omega); (try have hz3 : w.heap.size + 2 < w1.heap.size := by omega))
          go_wp2
          first
            | (go_ret; exact ⟨ret_bool (by rw [worksB, risesB, allB_false (k := 0) (by rw [HS.out]; simp [workD, *]) hlt]; rfl), by (repeat' (first | (with_reducible exact Below.refl _ _) | (with_reducible refine Below.alloc ?_ ?_ _) | (with_reducible refine Below.drew ?_) | (with_reducible refine below_drewN ?_ _) | (with_reducible refine Below.setCell ?_ ?_ _) | (with_reducible refine below_via ‹_› ?_ ?_) | (with_reducible refine below_grow ?_ ?_ _ _) | omega | (simp; done) | (simp; omega)))⟩)
            | (go_roundw
               case rel => exact ⟨1, by omega, rfl, all_one (by rw [HS.out]; exact hq1), by (repeat' (first | (with_reducible exact Below.refl _ _) | (with_reducible refine Below.alloc ?_ ?_ _) | (with_reducible refine Below.drew ?_) | (with_reducible refine below_drewN ?_ _) | (with_reducible refine Below.setCell ?_ ?_ _) | (with_reducible refine below_via ‹_› ?_ ?_) | (with_reducible refine below_grow ?_ ?_ _ _) | omega | (simp; done) | (simp; omega)))⟩
               case measure => simp [intOf]; omega)
        (refine wp_region_quiet_below (by kernel_rfl) (by kernel_rfl) ?_; (repeat (first | go_big_quiet_step ((first | (go_at_call 76; exact regrown_bool (c_impl_ValidWork xs[0].fName xs[0].fAtX xs[0].fAtY xs[0].fLoad xs[0].fMinutes xs[0].fFrom xs[0].fUntil _ o1) (by assumption)))) | quiet_step ((first | (go_at_call 76; exact regrown_bool (c_impl_ValidWork xs[0].fName xs[0].fAtX xs[0].fAtY xs[0].fLoad xs[0].fMinutes xs[0].fFrom xs[0].fUntil _ o1) (by assumption)))))); refine wpQuiet_nil ?_; intro w1 hw'; have hb := below_of_regrown hw'; clear hw'; obtain ⟨hc, hf⟩ := bcell hb; have hz := hb.size; (try simp at hz); (try have hz0 : ∀ b, b < w.heap.size → b < w1.heap.size := fun b h => by omega); (try have hz1 : w.heap.size < w1.heap.size := by omega); (try have hz2 : w.heap.size + 1 < w1.heap.size := by omega); (try have hz3 : w.heap.size + 2 < w1.heap.size := by omega))
        go_wp2
        first
          | (go_ret; exact ⟨ret_bool (by rw [worksB, risesB, allB_false (k := 0) (by rw [HS.out]; simp [workD, *]) hlt]; rfl), by (repeat' (first | (with_reducible exact Below.refl _ _) | (with_reducible refine Below.alloc ?_ ?_ _) | (with_reducible refine Below.drew ?_) | (with_reducible refine below_drewN ?_ _) | (with_reducible refine Below.setCell ?_ ?_ _) | (with_reducible refine below_via ‹_› ?_ ?_) | (with_reducible refine below_grow ?_ ?_ _ _) | omega | (simp; done) | (simp; omega)))⟩)
          | (go_roundw
             case rel => exact ⟨1, by omega, rfl, all_one (by rw [HS.out]; exact hq1), by (repeat' (first | (with_reducible exact Below.refl _ _) | (with_reducible refine Below.alloc ?_ ?_ _) | (with_reducible refine Below.drew ?_) | (with_reducible refine below_drewN ?_ _) | (with_reducible refine Below.setCell ?_ ?_ _) | (with_reducible refine below_via ‹_› ?_ ?_) | (with_reducible refine below_grow ?_ ?_ _ _) | omega | (simp; done) | (simp; omega)))⟩
             case measure => simp [intOf]; omega)
      · have hkI : (0 : Int) < k := by omega
        have hkd : decide (0 < k) = true := by simp; omega
        have hk1 : (1 : Int) ≤ k := by omega
        have hk2 : (k : Int) - 1 < xs.length := by omega
        have hkn := pred_nat (k := k) (by omega)
        have hkw := pred_wrap (k := k) (n := xs.length) (by omega) (by omega) hm
        have HS := hid (stepB_pos workD WorkD.fName xs k hlt (by omega))
        have p0 := (hB.cell (p := ⟨b, off + (k - 1) * 7 + 0, none⟩) hbb).trans (hx (k - 1) (by omega) 0 (by omega))
        simp only [encWork, List.getD_cons_zero, Nat.add_zero] at p0
        clear hx
        go_wp2
        obtain ⟨w1, hw1⟩ : ∃ x, x = wr.alloc (Obj.cells #[.string xs[k].fName, .int .i64 xs[k].fAtX, .int .i64 xs[k].fAtY, .int .i64 xs[k].fLoad, .int .i64 xs[k].fMinutes, .int .i64 xs[k].fFrom, .int .i64 xs[k].fUntil] 44) := ⟨_, rfl⟩
        rw [← hw1]
        have r0 := cellr (show w1.cell? ⟨wr.heap.size, 0, none⟩ = some (.string xs[k].fName) by rw [hw1]; simp [go_sem])
        have r1 := cellr (show w1.cell? ⟨wr.heap.size, 1, none⟩ = some (.int .i64 xs[k].fAtX) by rw [hw1]; simp [go_sem])
        have r2 := cellr (show w1.cell? ⟨wr.heap.size, 2, none⟩ = some (.int .i64 xs[k].fAtY) by rw [hw1]; simp [go_sem])
        have r3 := cellr (show w1.cell? ⟨wr.heap.size, 3, none⟩ = some (.int .i64 xs[k].fLoad) by rw [hw1]; simp [go_sem])
        have r4 := cellr (show w1.cell? ⟨wr.heap.size, 4, none⟩ = some (.int .i64 xs[k].fMinutes) by rw [hw1]; simp [go_sem])
        have r5 := cellr (show w1.cell? ⟨wr.heap.size, 5, none⟩ = some (.int .i64 xs[k].fFrom) by rw [hw1]; simp [go_sem])
        have r6 := cellr (show w1.cell? ⟨wr.heap.size, 6, none⟩ = some (.int .i64 xs[k].fUntil) by rw [hw1]; simp [go_sem])
        have r7 := cellr (show w1.cell? ⟨b, off + (k - 1) * 7, none⟩ = some (.string xs[k - 1].fName) by rw [hw1]; simp [go_sem, hbr, p0])
        have hB1 : Below w.heap.size w w1 := hw1 ▸ (by (repeat' (first | (with_reducible exact Below.refl _ _) | (with_reducible refine Below.alloc ?_ ?_ _) | (with_reducible refine Below.drew ?_) | (with_reducible refine below_drewN ?_ _) | (with_reducible refine Below.setCell ?_ ?_ _) | (with_reducible refine below_via ‹_› ?_ ?_) | (with_reducible refine below_grow ?_ ?_ _ _) | omega | (simp; done) | (simp; omega))))
        have hz1 := hB1.size
        clear hw1
        cases hq1 : workB xs[k].fName xs[k].fAtX xs[k].fAtY xs[k].fLoad xs[k].fMinutes xs[k].fFrom xs[k].fUntil
        · (refine wp_region_quiet_below (by kernel_rfl) (by kernel_rfl) ?_; (repeat (first | go_big_quiet_step ((first | (go_at_call 76; exact regrown_bool (c_impl_ValidWork xs[k].fName xs[k].fAtX xs[k].fAtY xs[k].fLoad xs[k].fMinutes xs[k].fFrom xs[k].fUntil _ o1) (by assumption)))) | quiet_step ((first | (go_at_call 76; exact regrown_bool (c_impl_ValidWork xs[k].fName xs[k].fAtX xs[k].fAtY xs[k].fLoad xs[k].fMinutes xs[k].fFrom xs[k].fUntil _ o1) (by assumption)))))); refine wpQuiet_nil ?_; intro w1 hw'; have hb := below_of_regrown hw'; clear hw'; obtain ⟨hc, hf⟩ := bcell hb; have hz := hb.size; (try simp at hz); (try have hz0 : ∀ b, b < w.heap.size → b < w1.heap.size := fun b h => by omega); (try have hz1 : w.heap.size < w1.heap.size := by omega); (try have hz2 : w.heap.size + 1 < w1.heap.size := by omega); (try have hz3 : w.heap.size + 2 < w1.heap.size := by omega))
          go_wp2
          first
            | (go_ret; exact ⟨ret_bool (by rw [worksB, risesB, allB_false (k := k) (by rw [HS.out]; simp [workD, *]) hlt]; rfl), by (repeat' (first | (with_reducible exact Below.refl _ _) | (with_reducible refine Below.alloc ?_ ?_ _) | (with_reducible refine Below.drew ?_) | (with_reducible refine below_drewN ?_ _) | (with_reducible refine Below.setCell ?_ ?_ _) | (with_reducible refine below_via ‹_› ?_ ?_) | (with_reducible refine below_grow ?_ ?_ _ _) | omega | (simp; done) | (simp; omega)))⟩)
            | (go_roundw
               case rel => exact ⟨k + 1, by omega, by go_num, all_snoc HA.out (by rw [HS.out]; simp [workD, *]), by (repeat' (first | (with_reducible exact Below.refl _ _) | (with_reducible refine Below.alloc ?_ ?_ _) | (with_reducible refine Below.drew ?_) | (with_reducible refine below_drewN ?_ _) | (with_reducible refine Below.setCell ?_ ?_ _) | (with_reducible refine below_via ‹_› ?_ ?_) | (with_reducible refine below_grow ?_ ?_ _ _) | omega | (simp; done) | (simp; omega)))⟩
               case measure => simp [intOf]; omega)
        cases hq2 : Op.bytesLess xs[k - 1].fName.toList xs[k].fName.toList
        · (refine wp_region_quiet_below (by kernel_rfl) (by kernel_rfl) ?_; (repeat (first | go_big_quiet_step ((first | (go_at_call 76; exact regrown_bool (c_impl_ValidWork xs[k].fName xs[k].fAtX xs[k].fAtY xs[k].fLoad xs[k].fMinutes xs[k].fFrom xs[k].fUntil _ o1) (by assumption)))) | quiet_step ((first | (go_at_call 76; exact regrown_bool (c_impl_ValidWork xs[k].fName xs[k].fAtX xs[k].fAtY xs[k].fLoad xs[k].fMinutes xs[k].fFrom xs[k].fUntil _ o1) (by assumption)))))); refine wpQuiet_nil ?_; intro w1 hw'; have hb := below_of_regrown hw'; clear hw'; obtain ⟨hc, hf⟩ := bcell hb; have hz := hb.size; (try simp at hz); (try have hz0 : ∀ b, b < w.heap.size → b < w1.heap.size := fun b h => by omega); (try have hz1 : w.heap.size < w1.heap.size := by omega); (try have hz2 : w.heap.size + 1 < w1.heap.size := by omega); (try have hz3 : w.heap.size + 2 < w1.heap.size := by omega))
          go_wp2
          first
            | (go_ret; exact ⟨ret_bool (by rw [worksB, risesB, allB_false (k := k) (by rw [HS.out]; simp [workD, *]) hlt]; rfl), by (repeat' (first | (with_reducible exact Below.refl _ _) | (with_reducible refine Below.alloc ?_ ?_ _) | (with_reducible refine Below.drew ?_) | (with_reducible refine below_drewN ?_ _) | (with_reducible refine Below.setCell ?_ ?_ _) | (with_reducible refine below_via ‹_› ?_ ?_) | (with_reducible refine below_grow ?_ ?_ _ _) | omega | (simp; done) | (simp; omega)))⟩)
            | (go_roundw
               case rel => exact ⟨k + 1, by omega, by go_num, all_snoc HA.out (by rw [HS.out]; simp [workD, *]), by (repeat' (first | (with_reducible exact Below.refl _ _) | (with_reducible refine Below.alloc ?_ ?_ _) | (with_reducible refine Below.drew ?_) | (with_reducible refine below_drewN ?_ _) | (with_reducible refine Below.setCell ?_ ?_ _) | (with_reducible refine below_via ‹_› ?_ ?_) | (with_reducible refine below_grow ?_ ?_ _ _) | omega | (simp; done) | (simp; omega)))⟩
               case measure => simp [intOf]; omega)
        (refine wp_region_quiet_below (by kernel_rfl) (by kernel_rfl) ?_; (repeat (first | go_big_quiet_step ((first | (go_at_call 76; exact regrown_bool (c_impl_ValidWork xs[k].fName xs[k].fAtX xs[k].fAtY xs[k].fLoad xs[k].fMinutes xs[k].fFrom xs[k].fUntil _ o1) (by assumption)))) | quiet_step ((first | (go_at_call 76; exact regrown_bool (c_impl_ValidWork xs[k].fName xs[k].fAtX xs[k].fAtY xs[k].fLoad xs[k].fMinutes xs[k].fFrom xs[k].fUntil _ o1) (by assumption)))))); refine wpQuiet_nil ?_; intro w1 hw'; have hb := below_of_regrown hw'; clear hw'; obtain ⟨hc, hf⟩ := bcell hb; have hz := hb.size; (try simp at hz); (try have hz0 : ∀ b, b < w.heap.size → b < w1.heap.size := fun b h => by omega); (try have hz1 : w.heap.size < w1.heap.size := by omega); (try have hz2 : w.heap.size + 1 < w1.heap.size := by omega); (try have hz3 : w.heap.size + 2 < w1.heap.size := by omega))
        go_wp2
        first
          | (go_ret; exact ⟨ret_bool (by rw [worksB, risesB, allB_false (k := k) (by rw [HS.out]; simp [workD, *]) hlt]; rfl), by (repeat' (first | (with_reducible exact Below.refl _ _) | (with_reducible refine Below.alloc ?_ ?_ _) | (with_reducible refine Below.drew ?_) | (with_reducible refine below_drewN ?_ _) | (with_reducible refine Below.setCell ?_ ?_ _) | (with_reducible refine below_via ‹_› ?_ ?_) | (with_reducible refine below_grow ?_ ?_ _ _) | omega | (simp; done) | (simp; omega)))⟩)
          | (go_roundw
             case rel => exact ⟨k + 1, by omega, by go_num, all_snoc HA.out (by rw [HS.out]; simp [workD, *]), by (repeat' (first | (with_reducible exact Below.refl _ _) | (with_reducible refine Below.alloc ?_ ?_ _) | (with_reducible refine Below.drew ?_) | (with_reducible refine below_drewN ?_ _) | (with_reducible refine Below.setCell ?_ ?_ _) | (with_reducible refine below_via ‹_› ?_ ?_) | (with_reducible refine below_grow ?_ ?_ _ _) | omega | (simp; done) | (simp; omega)))⟩
             case measure => simp [intOf]; omega)
    · have HR := hid (show worksB xs = decide ((xs.length : Int) ≤ 12) by rw [worksB, risesB, allB_true (fun i hi => HA.out i (by omega))]; rfl)
      clear hx
      go_wp2_with (first | (go_at_call 77; refine (c_few _ _ _).mono ?_; rintro e w' ⟨rfl, rfl⟩))
      go_ret
      exact ⟨ret_bool HR.out.symm, by (repeat' (first | (with_reducible exact Below.refl _ _) | (with_reducible refine Below.alloc ?_ ?_ _) | (with_reducible refine Below.drew ?_) | (with_reducible refine below_drewN ?_ _) | (with_reducible refine Below.setCell ?_ ?_ _) | (with_reducible refine below_via ‹_› ?_ ?_) | (with_reducible refine below_grow ?_ ?_ _ _) | omega | (simp; done) | (simp; omega)))⟩
end Go.Proofs.Ytmolcfagmiecjaa
