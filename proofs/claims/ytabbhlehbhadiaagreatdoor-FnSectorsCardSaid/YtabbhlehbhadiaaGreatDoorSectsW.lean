/- Lists of sectors: validity, the walks of both sides. -/
import Derived.Test.YtabbhlehbhadiaaGreatDoorSects
namespace Go.Proofs.YtabbhlehbhadiaaGreatDoor
open Go.RowKit Go.Sort
set_option maxRecDepth 100000

set_option maxHeartbeats 2000000 in
theorem c_l08Ok (v : Value) (xs : List SectorD) (w : World) (h : SlA w 0 3 encSector v xs) (hok : ∀ x ∈ xs, okSector x) :
    Calls Tryz.prog 58 #[v] w fun e w' => e = .returned (.bool (secB xs)) ∧ Below w.heap.size w w' := by
  obtain ⟨ad, cap, b, off, rfl, hm, had, hx⟩ := h.uni
  by_cases h12 : 12 < xs.length
  · have HF := hid (show secB xs = false by simp [secB]; omega)
    have h12I : (12 : Int) < xs.length := by omega
    go_enter Tryz.func58, Tryz.ntmps58
    go_wp2
    go_ret
    exact ⟨ret_bool HF.out.symm, by (repeat' (first | (with_reducible exact Below.refl _ _) | (with_reducible refine Below.alloc ?_ ?_ _) | (with_reducible refine Below.drew ?_) | (with_reducible refine below_drewN ?_ _) | (with_reducible refine Below.setCell ?_ ?_ _) | (with_reducible refine below_via ‹_› ?_ ?_) | (with_reducible refine below_grow ?_ ?_ _ _) | omega | (simp; done) | (simp; omega)))⟩
  have h12I : (xs.length : Int) ≤ 12 := by omega
  go_enter Tryz.func58, Tryz.ntmps58
  go_wp2
  go_loopw [4] (fun i wr => ∃ k : Nat, k ≤ xs.length ∧ i = .int .i64 k ∧ (∀ i, i < k → stepS xs i = true) ∧ Below w.heap.size w wr) (fun i _ => xs.length - (intOf i).toNat)
  case atStart => exact ⟨0, Nat.zero_le _, rfl, fun i hi => by omega, by (repeat' (first | (with_reducible exact Below.refl _ _) | (with_reducible refine Below.alloc ?_ ?_ _) | (with_reducible refine Below.drew ?_) | (with_reducible refine below_drewN ?_ _) | (with_reducible refine Below.setCell ?_ ?_ _) | (with_reducible refine below_via ‹_› ?_ ?_) | (with_reducible refine below_grow ?_ ?_ _ _) | omega | (simp; done) | (simp; omega)))⟩
  case round =>
    obtain ⟨k, hk, rfl, ha, hB⟩ := hrel
    have HA := hid ha; clear ha
    have hzr := hB.size
    by_cases hlt : k < xs.length
    · have hlI : (k : Int) < xs.length := by omega
      obtain ⟨rfl, hbb, -, hcc, hmc⟩ := had (by omega)
      have hbr : b < wr.heap.size := by omega
      have g0 := (hB.cell (p := ⟨b, off + k * 3 + 0, none⟩) hbb).trans (hx k hlt 0 (by omega))
      have g1 := (hB.cell (p := ⟨b, off + k * 3 + 1, none⟩) hbb).trans (hx k hlt 1 (by omega))
      have g2 := (hB.cell (p := ⟨b, off + k * 3 + 2, none⟩) hbb).trans (hx k hlt 2 (by omega))
      simp only [encSector, List.getD_cons_zero, List.getD_cons_succ, Nat.add_zero] at g0 g1 g2
      by_cases hk0 : k = 0
      · subst hk0
        simp only [Nat.zero_mul, Nat.add_zero] at g0 g1 g2
        have HS := hid (show stepS xs 0 = sectB xs[0].fFrom xs[0].fTo xs[0].fColor by rw [stepS, oA_get hlt]; simp)
        clear hx
        cases hq1 : sectB xs[0].fFrom xs[0].fTo xs[0].fColor
        · go_wp2
          go_quiet ((first | (go_at_call 83; first | exact quiet_bool (c_l08One b off xs[0].fFrom xs[0].fTo xs[0].fColor _ (by simpa using g0) (by simpa using g1) (by simpa using g2)) (by assumption) | exact quiet_boolN (c_l08One b off xs[0].fFrom xs[0].fTo xs[0].fColor _ (by simpa using g0) (by simpa using g1) (by simpa using g2)) (by assumption))))
          go_wp2
          first
            | (go_ret; exact ⟨ret_bool (secB_step hlt (HS.out.trans hq1)).symm, by (repeat' (first | (with_reducible exact Below.refl _ _) | (with_reducible refine Below.alloc ?_ ?_ _) | (with_reducible refine Below.drew ?_) | (with_reducible refine below_drewN ?_ _) | (with_reducible refine Below.setCell ?_ ?_ _) | (with_reducible refine below_via ‹_› ?_ ?_) | (with_reducible refine below_grow ?_ ?_ _ _) | omega | (simp; done) | (simp; omega)))⟩)
            | (go_roundw
               case rel => exact ⟨1, by omega, rfl, all_one (HS.out.trans hq1), by (repeat' (first | (with_reducible exact Below.refl _ _) | (with_reducible refine Below.alloc ?_ ?_ _) | (with_reducible refine Below.drew ?_) | (with_reducible refine below_drewN ?_ _) | (with_reducible refine Below.setCell ?_ ?_ _) | (with_reducible refine below_via ‹_› ?_ ?_) | (with_reducible refine below_grow ?_ ?_ _ _) | omega | (simp; done) | (simp; omega)))⟩
               case measure => simp [intOf]; omega)
        go_wp2
        go_quiet ((first | (go_at_call 83; first | exact quiet_bool (c_l08One b off xs[0].fFrom xs[0].fTo xs[0].fColor _ (by simpa using g0) (by simpa using g1) (by simpa using g2)) (by assumption) | exact quiet_boolN (c_l08One b off xs[0].fFrom xs[0].fTo xs[0].fColor _ (by simpa using g0) (by simpa using g1) (by simpa using g2)) (by assumption))))
        go_wp2
        first
          | (go_ret; exact ⟨ret_bool (secB_step hlt (HS.out.trans hq1)).symm, by (repeat' (first | (with_reducible exact Below.refl _ _) | (with_reducible refine Below.alloc ?_ ?_ _) | (with_reducible refine Below.drew ?_) | (with_reducible refine below_drewN ?_ _) | (with_reducible refine Below.setCell ?_ ?_ _) | (with_reducible refine below_via ‹_› ?_ ?_) | (with_reducible refine below_grow ?_ ?_ _ _) | omega | (simp; done) | (simp; omega)))⟩)
          | (go_roundw
             case rel => exact ⟨1, by omega, rfl, all_one (HS.out.trans hq1), by (repeat' (first | (with_reducible exact Below.refl _ _) | (with_reducible refine Below.alloc ?_ ?_ _) | (with_reducible refine Below.drew ?_) | (with_reducible refine below_drewN ?_ _) | (with_reducible refine Below.setCell ?_ ?_ _) | (with_reducible refine below_via ‹_› ?_ ?_) | (with_reducible refine below_grow ?_ ?_ _ _) | omega | (simp; done) | (simp; omega)))⟩
             case measure => simp [intOf]; omega)
      · have hkI : (0 : Int) < k := by omega
        have hkd : decide (0 < k) = true := by simp; omega
        have hk1 : (1 : Int) ≤ k := by omega
        have hk2 : (k : Int) - 1 < xs.length := by omega
        have hkn := pred_nat (k := k) (by omega)
        have hkw := pred_wrap (k := k) (n := xs.length) (by omega) (by omega) hm
        have HS := hid (show stepS xs k = (sectB xs[k].fFrom xs[k].fTo xs[k].fColor && !(decide (xs[k].fFrom ≤ xs[k - 1].fFrom))) by
          rw [stepS, oA_get hlt, fA_get hlt, fA_get (show k - 1 < xs.length by omega)]; simp [hk0]; congr 1; rw [Bool.eq_iff_iff]; simp)
        have p0 := (hB.cell (p := ⟨b, off + (k - 1) * 3 + 0, none⟩) hbb).trans (hx (k - 1) (by omega) 0 (by omega))
        simp only [encSector, List.getD_cons_zero, Nat.add_zero] at p0
        clear hx
        cases hq1 : sectB xs[k].fFrom xs[k].fTo xs[k].fColor
        · go_wp2
          go_quiet ((first | (go_at_call 83; first | exact quiet_bool (c_l08One b (off + k * 3) xs[k].fFrom xs[k].fTo xs[k].fColor _ g0 g1 g2) (by assumption) | exact quiet_boolN (c_l08One b (off + k * 3) xs[k].fFrom xs[k].fTo xs[k].fColor _ g0 g1 g2) (by assumption))))
          go_wp2
          go_ret
          exact ⟨ret_bool (secB_step hlt (by rw [HS.out, hq1]; rfl)).symm, by (repeat' (first | (with_reducible exact Below.refl _ _) | (with_reducible refine Below.alloc ?_ ?_ _) | (with_reducible refine Below.drew ?_) | (with_reducible refine below_drewN ?_ _) | (with_reducible refine Below.setCell ?_ ?_ _) | (with_reducible refine below_via ‹_› ?_ ?_) | (with_reducible refine below_grow ?_ ?_ _ _) | omega | (simp; done) | (simp; omega)))⟩
        · by_cases hq2 : xs[k].fFrom ≤ xs[k - 1].fFrom
          · have hd : decide (xs[k].fFrom ≤ xs[k - 1].fFrom) = true := by simpa using hq2
            go_wp2
            go_quiet ((first | (go_at_call 83; first | exact quiet_bool (c_l08One b (off + k * 3) xs[k].fFrom xs[k].fTo xs[k].fColor _ g0 g1 g2) (by assumption) | exact quiet_boolN (c_l08One b (off + k * 3) xs[k].fFrom xs[k].fTo xs[k].fColor _ g0 g1 g2) (by assumption))))
            go_wp2
            go_ret
            exact ⟨ret_bool (secB_step hlt (by rw [HS.out, hq1, hd]; rfl)).symm, by (repeat' (first | (with_reducible exact Below.refl _ _) | (with_reducible refine Below.alloc ?_ ?_ _) | (with_reducible refine Below.drew ?_) | (with_reducible refine below_drewN ?_ _) | (with_reducible refine Below.setCell ?_ ?_ _) | (with_reducible refine below_via ‹_› ?_ ?_) | (with_reducible refine below_grow ?_ ?_ _ _) | omega | (simp; done) | (simp; omega)))⟩
          · have hd : decide (xs[k].fFrom ≤ xs[k - 1].fFrom) = false := by simpa using hq2
            go_wp2
            go_quiet ((first | (go_at_call 83; first | exact quiet_bool (c_l08One b (off + k * 3) xs[k].fFrom xs[k].fTo xs[k].fColor _ g0 g1 g2) (by assumption) | exact quiet_boolN (c_l08One b (off + k * 3) xs[k].fFrom xs[k].fTo xs[k].fColor _ g0 g1 g2) (by assumption))))
            go_wp2
            go_roundw
            case rel => exact ⟨k + 1, by omega, by go_num, all_snoc HA.out (by rw [HS.out, hq1, hd]; rfl), by (repeat' (first | (with_reducible exact Below.refl _ _) | (with_reducible refine Below.alloc ?_ ?_ _) | (with_reducible refine Below.drew ?_) | (with_reducible refine below_drewN ?_ _) | (with_reducible refine Below.setCell ?_ ?_ _) | (with_reducible refine below_via ‹_› ?_ ?_) | (with_reducible refine below_grow ?_ ?_ _ _) | omega | (simp; done) | (simp; omega)))⟩
            case measure => simp [intOf]; omega
    · have e : k = xs.length := by omega
      subst e
      obtain ⟨wo, rfl⟩ : ∃ wo : World, wo = wr := ⟨_, rfl⟩
      go_wp2
      go_loopw [5] (fun i wr => ∃ k : Nat, k ≤ xs.length ∧ i = .int .i64 k ∧ (∀ i, i < k → gapS xs i = true) ∧ Below w.heap.size w wr) (fun i _ => xs.length - (intOf i).toNat)
      case atStart => exact ⟨0, Nat.zero_le _, rfl, fun i hi => by omega, by (repeat' (first | (with_reducible exact Below.refl _ _) | (with_reducible refine Below.alloc ?_ ?_ _) | (with_reducible refine Below.drew ?_) | (with_reducible refine below_drewN ?_ _) | (with_reducible refine Below.setCell ?_ ?_ _) | (with_reducible refine below_via ‹_› ?_ ?_) | (with_reducible refine below_grow ?_ ?_ _ _) | omega | (simp; done) | (simp; omega)))⟩
      case round =>
        obtain ⟨k, hk, rfl, ha2, hB2⟩ := hrel
        have HA2 := hid ha2; clear ha2
        have hzr2 := hB2.size
        by_cases hlt2 : k < xs.length ∧ 1 < xs.length
        · obtain ⟨hltk, hn1⟩ := hlt2
          have hlI : (k : Int) < xs.length := by omega
          have hnI : (1 : Int) < xs.length := by omega
          have hnd : decide (1 < xs.length) = true := by simpa using hn1
          obtain ⟨rfl, hbb, -, hcc, hmc⟩ := had (by omega)
          have hm2 : (k + 1) % xs.length < xs.length := Nat.mod_lt _ (by omega)
          have g0 := (hB2.cell (p := ⟨b, off + k * 3 + 0, none⟩) hbb).trans (hx k hltk 0 (by omega))
          have g1 := (hB2.cell (p := ⟨b, off + k * 3 + 1, none⟩) hbb).trans (hx k hltk 1 (by omega))
          have p0 := (hB2.cell (p := ⟨b, off + ((k + 1) % xs.length) * 3 + 0, none⟩) hbb).trans (hx _ hm2 0 (by omega))
          simp only [encSector, List.getD_cons_zero, List.getD_cons_succ, Nat.add_zero] at g0 g1 p0
          have s1 := HA.out k hltk
          have s2 := HA.out _ hm2
          have b1 := stepS_bd s1 hltk
          have b2 := stepS_bd s2 hm2
          have HG := hid (show gapS xs k = !(decide ((xs[(k + 1) % xs.length].fFrom - xs[k].fFrom + 360) % 360 < arcV xs[k].fFrom xs[k].fTo)) by
            rw [gapS, aA, fA_get hltk, tA_get hltk, fA_get hm2, Bool.eq_iff_iff]; simp)
          rw [fA_get hltk, tA_get hltk] at b1
          rw [fA_get hm2] at b2
          have hf : bearB xs[k].fFrom = true := inB_of b1.1 b1.2.1
          have ht : bearB xs[k].fTo = true := inB_of b1.2.2.1 b1.2.2.2
          have r0 := cellr g0
          have r1 := cellr g1
          have r2 := cellr p0
          obtain ⟨f, hfe⟩ : ∃ f, f = xs[k].fFrom := ⟨_, rfl⟩
          obtain ⟨t, hte⟩ : ∃ t, t = xs[k].fTo := ⟨_, rfl⟩
          obtain ⟨f2, hfe2⟩ : ∃ f, f = xs[(k + 1) % xs.length].fFrom := ⟨_, rfl⟩
          rw [← hfe] at HG hf r0 b1
          rw [← hte] at HG ht r1 b1
          rw [← hfe2] at HG r2 b2
          have hw1 : IntKind.i64.wrap ((k : Int) + 1) = (k : Int) + 1 := IntWalk.i64_in _ (by omega)
          have hw2 : ((k : Int) + 1).tmod (xs.length : Int) = (((k + 1) % xs.length : Nat) : Int) := by rw [Int.tmod_eq_emod_of_nonneg (by omega)]; norm_cast
          have hw3 : IntKind.i64.wrap (f2 - f) = f2 - f := IntWalk.i64_in _ (by omega)
          have hw4 : IntKind.i64.wrap (f2 - f + 360) = f2 - f + 360 := IntWalk.i64_in _ (by omega)
          have hw5 : (f2 - f + 360).tmod 360 = (f2 - f + 360) % 360 := Int.tmod_eq_emod_of_nonneg (by omega)
          have hwm : ((k : Int) + 1) % (xs.length : Int) = (((k + 1) % xs.length : Nat) : Int) := by norm_cast
          have hw6 : 0 ≤ ((k : Int) + 1) % (xs.length : Int) := by omega
          have hw7 : ((k : Int) + 1) % (xs.length : Int) < xs.length := by omega
          have hw8 : (((k : Int) + 1) % (xs.length : Int)).toNat = (k + 1) % xs.length := by omega
          clear hwm hw2
          have hbr : b < wr.heap.size := by omega
          clear hx g0 g1 p0 s1 s2 hfe hte hfe2
          cases hq : decide ((f2 - f + 360) % 360 < arcV f t)
          all_goals
            have hq' := hq
            rw [show (f2 - f + 360) % 360 = (f2 - f) % 360 by omega] at hq'
            go_wp2
            (refine wp_region_quiet_below (by kernel_rfl) (by kernel_rfl) ?_; (repeat (first | go_big_quiet_step ((first | (go_at_call 84; exact regrown_of (c_l08Arc b (off + k * 3) f t _ (r0 _ _) (r1 _ _) hf ht)))) | quiet_step ((first | (go_at_call 84; exact regrown_of (c_l08Arc b (off + k * 3) f t _ (r0 _ _) (r1 _ _) hf ht)))))); refine wpQuiet_nil ?_; intro w1 hw'; have hb := below_of_regrown hw'; clear hw'; obtain ⟨hc, hf⟩ := bcell hb; have hz := hb.size; (try simp at hz); (try have hz0 : ∀ b, b < w.heap.size → b < w1.heap.size := fun b h => by omega); (try have hz1 : w.heap.size < w1.heap.size := by omega); (try have hz2 : w.heap.size + 1 < w1.heap.size := by omega); (try have hz3 : w.heap.size + 2 < w1.heap.size := by omega))
            go_wp2
          · go_roundw
            case rel => exact ⟨k + 1, by omega, by go_num, all_snoc HA2.out (by rw [HG.out, hq]; rfl), by (repeat' (first | (with_reducible exact Below.refl _ _) | (with_reducible refine Below.alloc ?_ ?_ _) | (with_reducible refine Below.drew ?_) | (with_reducible refine below_drewN ?_ _) | (with_reducible refine Below.setCell ?_ ?_ _) | (with_reducible refine below_via ‹_› ?_ ?_) | (with_reducible refine below_grow ?_ ?_ _ _) | omega | (simp; done) | (simp; omega)))⟩
            case measure => simp [intOf]; omega
          · go_ret
            exact ⟨ret_bool (secB_gap hltk hn1 (by rw [HG.out, hq]; rfl)).symm, by (repeat' (first | (with_reducible exact Below.refl _ _) | (with_reducible refine Below.alloc ?_ ?_ _) | (with_reducible refine Below.drew ?_) | (with_reducible refine below_drewN ?_ _) | (with_reducible refine Below.setCell ?_ ?_ _) | (with_reducible refine below_via ‹_› ?_ ?_) | (with_reducible refine below_grow ?_ ?_ _ _) | omega | (simp; done) | (simp; omega)))⟩
        · have HR := hid (show secB xs = true by
            have h1 := allB_true HA.out
            simp only [secB, h1, Bool.true_and, Bool.and_eq_true, Bool.or_eq_true, decide_eq_true_eq]
            refine ⟨h12I, ?_⟩
            by_cases hn1 : 1 < xs.length
            · exact .inr (allB_true fun i hi => HA2.out i (by omega))
            · exact .inl (by omega))
          clear hx
          by_cases hkn : k < xs.length
          · have hlI : (k : Int) < xs.length := by omega
            have hnd : decide (1 < xs.length) = false := by simp; omega
            go_wp2
            go_ret
            exact ⟨ret_bool HR.out.symm, by (repeat' (first | (with_reducible exact Below.refl _ _) | (with_reducible refine Below.alloc ?_ ?_ _) | (with_reducible refine Below.drew ?_) | (with_reducible refine below_drewN ?_ _) | (with_reducible refine Below.setCell ?_ ?_ _) | (with_reducible refine below_via ‹_› ?_ ?_) | (with_reducible refine below_grow ?_ ?_ _ _) | omega | (simp; done) | (simp; omega)))⟩
          · go_wp2
            go_ret
            exact ⟨ret_bool HR.out.symm, by (repeat' (first | (with_reducible exact Below.refl _ _) | (with_reducible refine Below.alloc ?_ ?_ _) | (with_reducible refine Below.drew ?_) | (with_reducible refine below_drewN ?_ _) | (with_reducible refine Below.setCell ?_ ?_ _) | (with_reducible refine below_via ‹_› ?_ ?_) | (with_reducible refine below_grow ?_ ?_ _ _) | omega | (simp; done) | (simp; omega)))⟩
theorem c_spec_ValidSectors (v : Value) (xs : List SectorD) (w : World) (h : SlA w 0 3 encSector v xs) (hok : ∀ x ∈ xs, okSector x) :
    Calls Tryz.prog 21 #[v] w fun e w' => e = .returned (.bool (secB xs)) ∧ Below w.heap.size w w' := by
  go_enter Tryz.func21, Tryz.ntmps21
  go_wp2_with (first | (go_at_call 58; refine (c_l08Ok _ _ _ (by first | (with_reducible assumption) | (with_reducible apply SlO.at; (with_reducible assumption); (repeat' (first | (with_reducible exact Below.refl _ _) | (with_reducible refine Below.alloc ?_ ?_ _) | (with_reducible refine Below.drew ?_) | (with_reducible refine below_drewN ?_ _) | (with_reducible refine Below.setCell ?_ ?_ _) | (with_reducible refine below_via ‹_› ?_ ?_) | (with_reducible refine below_grow ?_ ?_ _ _) | omega | (simp; done) | (simp; omega))); done) | (with_reducible apply SlA.at; (with_reducible assumption); (repeat' (first | (with_reducible exact Below.refl _ _) | (with_reducible refine Below.alloc ?_ ?_ _) | (with_reducible refine Below.drew ?_) | (with_reducible refine below_drewN ?_ _) | (with_reducible refine Below.setCell ?_ ?_ _) | (with_reducible refine below_via ‹_› ?_ ?_) | (with_reducible refine below_grow ?_ ?_ _ _) | omega | (simp; done) | (simp; omega))); done)) (by assumption)).mono ?_; rintro e w1 ⟨rfl, hb⟩; obtain ⟨hc, hf⟩ := bcell hb; have hz := hb.size; (try simp at hz); (try have hz0 : ∀ b, b < w.heap.size → b < w1.heap.size := fun b h => by omega); (try have hz1 : w.heap.size < w1.heap.size := by omega); (try have hz2 : w.heap.size + 1 < w1.heap.size := by omega); (try have hz3 : w.heap.size + 2 < w1.heap.size := by omega)))
  go_ret
  exact ⟨rfl, by (repeat' (first | (with_reducible exact Below.refl _ _) | (with_reducible refine Below.alloc ?_ ?_ _) | (with_reducible refine Below.drew ?_) | (with_reducible refine below_drewN ?_ _) | (with_reducible refine Below.setCell ?_ ?_ _) | (with_reducible refine below_via ‹_› ?_ ?_) | (with_reducible refine below_grow ?_ ?_ _ _) | omega | (simp; done) | (simp; omega)))⟩
theorem imp_step {xs : List SectorD} {k : Nat} (hk : k < xs.length) (h : impS xs k = false) : secB xs = false := by
  rw [← imp_sec]; simp [impB, allB_false h hk]
set_option maxHeartbeats 4000000 in
theorem c_impl_ValidSectors (v : Value) (xs : List SectorD) (w : World) (h : SlA w 0 3 encSector v xs) (hok : ∀ x ∈ xs, okSector x) (hl : xs.length ≤ 1048576) :
    Calls Tryz.prog 49 #[v] w fun e w' => e = .returned (.bool (secB xs)) ∧ Below w.heap.size w w' := by
  obtain ⟨ad, cap, b, off, rfl, hm, had, hx⟩ := h.uni
  go_enter Tryz.func49, Tryz.ntmps49
  go_wp2
  go_loopw [3, 10] (fun q i wr => ∃ k : Nat, k ≤ xs.length ∧ i = .int .i64 k ∧ q = .int .i64 (totA (aA xs) k) ∧ (∀ i, i < k → impS xs i = true) ∧ Below w.heap.size w wr) (fun _ i _ => xs.length - (intOf i).toNat)
  case atStart => exact ⟨0, Nat.zero_le _, rfl, rfl, fun i hi => by omega, by (repeat' (first | (with_reducible exact Below.refl _ _) | (with_reducible refine Below.alloc ?_ ?_ _) | (with_reducible refine Below.drew ?_) | (with_reducible refine below_drewN ?_ _) | (with_reducible refine Below.setCell ?_ ?_ _) | (with_reducible refine below_via ‹_› ?_ ?_) | (with_reducible refine below_grow ?_ ?_ _ _) | omega | (simp; done) | (simp; omega)))⟩
  case round =>
    obtain ⟨k, hk, rfl, rfl, ha, hB⟩ := hrel
    obtain ⟨wo, rfl⟩ : ∃ wo : World, wo = wr := ⟨_, rfl⟩
    have HA := hid ha; clear ha
    have hzr := hB.size
    have htb := tot_bd xs k
    by_cases hlt : k < xs.length
    · have hlI : (k : Int) < xs.length := by omega
      obtain ⟨rfl, hbb, -, hcc, hmc⟩ := had (by omega)
      have hbr : b < wo.heap.size := by omega
      have g0 := (hB.cell (p := ⟨b, off + k * 3 + 0, none⟩) hbb).trans (hx k hlt 0 (by omega))
      have g1 := (hB.cell (p := ⟨b, off + k * 3 + 1, none⟩) hbb).trans (hx k hlt 1 (by omega))
      have g2 := (hB.cell (p := ⟨b, off + k * 3 + 2, none⟩) hbb).trans (hx k hlt 2 (by omega))
      simp only [encSector, List.getD_cons_zero, List.getD_cons_succ, Nat.add_zero] at g0 g1 g2
      obtain ⟨o1, o2, o3⟩ := hok xs[k] (List.getElem_mem hlt)
      have HX := hid hx
      have HST := hid (show stepS xs k = (sectB xs[k].fFrom xs[k].fTo xs[k].fColor && (decide (k = 0) || decide (fA xs (k - 1) < fA xs k))) by rw [stepS, oA_get hlt])
      have hfk := fA_get hlt
      have htk := tA_get hlt
      obtain ⟨f, hfe⟩ : ∃ f, f = xs[k].fFrom := ⟨_, rfl⟩
      obtain ⟨t, hte⟩ : ∃ t, t = xs[k].fTo := ⟨_, rfl⟩
      obtain ⟨c, hce⟩ : ∃ c, c = xs[k].fColor := ⟨_, rfl⟩
      rw [← hfe] at g0 hfk HST
      rw [← hte] at g1 htk HST
      rw [← hce] at g2 HST o3
      have HF := hid (And.intro hfk htk)
      clear hfe hte hce hx hfk htk o1 o2
      go_wp2
      obtain ⟨wa, hw1⟩ : ∃ x, x = wo.alloc (Obj.cells #[.int .i64 f, .int .i64 t, .string c] 45) := ⟨_, rfl⟩
      rw [← hw1]
      have ra0 : wa.cell? ⟨wo.heap.size, 0, none⟩ = some (.int .i64 f) := by rw [hw1]; simp [go_sem]
      have ra1 : wa.cell? ⟨wo.heap.size, 1, none⟩ = some (.int .i64 t) := by rw [hw1]; simp [go_sem]
      have ra2 : wa.cell? ⟨wo.heap.size, 2, none⟩ = some (.string c) := by rw [hw1]; simp [go_sem]
      have r0 := cellr ra0
      have r1 := cellr ra1
      have r2 := cellr ra2
      have hB1 : Below w.heap.size w wa := hw1 ▸ (by (repeat' (first | (with_reducible exact Below.refl _ _) | (with_reducible refine Below.alloc ?_ ?_ _) | (with_reducible refine Below.drew ?_) | (with_reducible refine below_drewN ?_ _) | (with_reducible refine Below.setCell ?_ ?_ _) | (with_reducible refine below_via ‹_› ?_ ?_) | (with_reducible refine below_grow ?_ ?_ _ _) | omega | (simp; done) | (simp; omega))))
      have hzA := hB1.size
      have hzb : wo.heap.size < wa.heap.size := by rw [hw1]; simp
      have HRA := hid (And.intro ra0 (And.intro ra1 ra2))
      clear hw1 ra0 ra1 ra2 g0 g1 g2
      have hFal : (stepS xs k = false) → secB xs = false := fun hh => imp_step hlt (by rw [impS, hh]; rfl)
      have HFal := hid hFal
      clear hFal
      cases hq1 : sectB f t c
      · have HR := hid (HFal.out (by rw [HST.out, hq1]; rfl))
        (refine wp_region_quiet_below (by kernel_rfl) (by kernel_rfl) ?_; (repeat (first | go_big_quiet_step ((first | (go_at_call 80; exact regrown_bool (c_ValidSector f t c _ o3) (by assumption)))) | quiet_step ((first | (go_at_call 80; exact regrown_bool (c_ValidSector f t c _ o3) (by assumption)))))); refine wpQuiet_nil ?_; intro w1 hw'; have hb := below_of_regrown hw'; clear hw'; obtain ⟨hc, hf⟩ := bcell hb; have hz := hb.size; (try simp at hz); (try have hz0 : ∀ b, b < w.heap.size → b < w1.heap.size := fun b h => by omega); (try have hz1 : w.heap.size < w1.heap.size := by omega); (try have hz2 : w.heap.size + 1 < w1.heap.size := by omega); (try have hz3 : w.heap.size + 2 < w1.heap.size := by omega))
        go_wp2
        go_ret
        exact ⟨ret_bool HR.out.symm, by (repeat' (first | (with_reducible exact Below.refl _ _) | (with_reducible refine Below.alloc ?_ ?_ _) | (with_reducible refine Below.drew ?_) | (with_reducible refine below_drewN ?_ _) | (with_reducible refine Below.setCell ?_ ?_ _) | (with_reducible refine below_via ‹_› ?_ ?_) | (with_reducible refine below_grow ?_ ?_ _ _) | omega | (simp; done) | (simp; omega)))⟩
      have hft : bearB f = true ∧ bearB t = true := by
        simp only [sectB, Bool.and_eq_true] at hq1; exact ⟨hq1.1, hq1.2.1⟩
      obtain ⟨hf1, ht1⟩ := hft
      by_cases hC : 0 < k ∧ ¬ fA xs (k - 1) < f
      · obtain ⟨hk0, hup⟩ := hC
        have hkI : (0 : Int) < k := by omega
        have hkd : decide (0 < k) = true := by simpa using hk0
        have hk1 : (1 : Int) ≤ k := by omega
        have hk2 : (k : Int) - 1 < xs.length := by omega
        have hkn := pred_nat (k := k) hk0
        have hkw := pred_wrap (k := k) (n := xs.length) hk0 (by omega) hm
        have p0 := (hB1.cell (p := ⟨b, off + (k - 1) * 3 + 0, none⟩) hbb).trans (HX.out (k - 1) (by omega) 0 (by omega))
        simp only [encSector, List.getD_cons_zero, Nat.add_zero] at p0
        rw [fA_get (show k - 1 < xs.length by omega)] at hup
        have hd : decide (f ≤ xs[k - 1].fFrom) = true := by simpa using hup
        have HR := hid (HFal.out (by rw [HST.out, hq1, HF.out.1, fA_get (show k - 1 < xs.length by omega)]; simp [show ¬ k = 0 by omega]; omega))
        have r3 := cellr p0
        clear hup
        (refine wp_region_quiet_below (by kernel_rfl) (by kernel_rfl) ?_; (repeat (first | go_big_quiet_step ((first | (go_at_call 80; exact regrown_bool (c_ValidSector f t c _ o3) (by assumption)))) | quiet_step ((first | (go_at_call 80; exact regrown_bool (c_ValidSector f t c _ o3) (by assumption)))))); refine wpQuiet_nil ?_; intro w1 hw'; have hb := below_of_regrown hw'; clear hw'; obtain ⟨hc, hf⟩ := bcell hb; have hz := hb.size; (try simp at hz); (try have hz0 : ∀ b, b < w.heap.size → b < w1.heap.size := fun b h => by omega); (try have hz1 : w.heap.size < w1.heap.size := by omega); (try have hz2 : w.heap.size + 1 < w1.heap.size := by omega); (try have hz3 : w.heap.size + 2 < w1.heap.size := by omega))
        go_wp2
        go_ret
        exact ⟨ret_bool HR.out.symm, by (repeat' (first | (with_reducible exact Below.refl _ _) | (with_reducible refine Below.alloc ?_ ?_ _) | (with_reducible refine Below.drew ?_) | (with_reducible refine below_drewN ?_ _) | (with_reducible refine Below.setCell ?_ ?_ _) | (with_reducible refine below_via ‹_› ?_ ?_) | (with_reducible refine below_grow ?_ ?_ _ _) | omega | (simp; done) | (simp; omega)))⟩
      have hAB : k = 0 ∨ (0 < k ∧ fA xs (k - 1) < f) := by
        by_cases h0 : k = 0
        · exact .inl h0
        · exact .inr ⟨by omega, by have : ¬ ¬ fA xs (k - 1) < f := fun h => hC ⟨by omega, h⟩; exact Decidable.of_not_not this⟩
      clear hC
      have HSt := hid (show stepS xs k = true by
        rw [HST.out, hq1, HF.out.1]
        rcases hAB with h0 | ⟨h0, h1⟩
        · simp [h0]
        · simp [h1])
      rcases hAB with h0 | ⟨h0, hup⟩
      · have hkd : decide (0 < k) = false := by simp; omega
        clear h0
        (refine wp_region_quiet_below (by kernel_rfl) (by kernel_rfl) ?_; (repeat (first | go_big_quiet_step ((first | (go_at_call 80; exact regrown_bool (c_ValidSector f t c _ o3) (by assumption)))) | quiet_step ((first | (go_at_call 80; exact regrown_bool (c_ValidSector f t c _ o3) (by assumption)))))); refine wpQuiet_nil ?_; intro w1 hw'; have hb := below_of_regrown hw'; clear hw'; obtain ⟨hc, hf⟩ := bcell hb; have hz := hb.size; (try simp at hz); (try have hz0 : ∀ b, b < w.heap.size → b < w1.heap.size := fun b h => by omega); (try have hz1 : w.heap.size < w1.heap.size := by omega); (try have hz2 : w.heap.size + 1 < w1.heap.size := by omega); (try have hz3 : w.heap.size + 2 < w1.heap.size := by omega))
        have kz : wo.heap.size < w1.heap.size := by omega
        have k0 := (hb.cell (p := ⟨wo.heap.size, 0, none⟩) hzb).trans HRA.out.1
        have k1 := (hb.cell (p := ⟨wo.heap.size, 1, none⟩) hzb).trans HRA.out.2.1
        have k2 := (hb.cell (p := ⟨wo.heap.size, 2, none⟩) hzb).trans HRA.out.2.2
        have hB2 : Below w.heap.size w w1 := hB1.trans (hb.mono hzA)
        have hz2 := hB2.size
        have hbr2 : b < w1.heap.size := by omega
        (clear hc hf hb r0 r1 r2)
        (try clear r3 p0)
        go_wp2
        go_loopw [35] (fun i wr => ∃ j : Nat, j ≤ xs.length ∧ i = .int .i64 j ∧ (∀ i, i < j → noHas xs k i = true) ∧ Below w1.heap.size w1 wr) (fun i _ => xs.length - (intOf i).toNat)
        case atStart => exact ⟨0, Nat.zero_le _, rfl, fun i hi => by omega, by (repeat' (first | (with_reducible exact Below.refl _ _) | (with_reducible refine Below.alloc ?_ ?_ _) | (with_reducible refine Below.drew ?_) | (with_reducible refine below_drewN ?_ _) | (with_reducible refine Below.setCell ?_ ?_ _) | (with_reducible refine below_via ‹_› ?_ ?_) | (with_reducible refine below_grow ?_ ?_ _ _) | omega | (simp; done) | (simp; omega)))⟩
        case round =>
          obtain ⟨j, hj, rfl, hn, hB3⟩ := hrel
          have HN := hid hn; clear hn
          have hz3 := hB3.size
          have q0 := below_cell hB3 kz k0
          have q1 := below_cell hB3 kz k1
          have q2 := below_cell hB3 kz k2
          have hzq : wo.heap.size < wr.heap.size := by omega
          by_cases hjt : j < xs.length
          · have hjI : (j : Int) < xs.length := by omega
            have hB4 : Below w.heap.size w wr := hB2.trans (hB3.mono hz2)
            have g0 := (hB4.cell (p := ⟨b, off + j * 3 + 0, none⟩) hbb).trans (HX.out j hjt 0 (by omega))
            have g1 := (hB4.cell (p := ⟨b, off + j * 3 + 1, none⟩) hbb).trans (HX.out j hjt 1 (by omega))
            have g2 := (hB4.cell (p := ⟨b, off + j * 3 + 2, none⟩) hbb).trans (HX.out j hjt 2 (by omega))
            simp only [encSector, List.getD_cons_zero, List.getD_cons_succ, Nat.add_zero] at g0 g1 g2
            obtain ⟨oj, _, _⟩ := hok xs[j] (List.getElem_mem hjt)
            clear hB4
            have hfj := fA_get hjt
            obtain ⟨fj, hfe⟩ : ∃ f, f = xs[j].fFrom := ⟨_, rfl⟩
            rw [← hfe] at g0 oj hfj
            clear hfe
            have HJ := hid (show noHas xs k j = (decide (j = k) || !(hasV f t fj)) by rw [noHas, HF.out.1, HF.out.2, hfj])
            clear hfj
            by_cases hjk : j = k
            · have hne : ((j : Int) != (k : Int)) = false := by simp [hjk]
              have HK := hid hjk
              clear hjk
              go_wp2
              go_roundw
              case rel => exact ⟨j + 1, by omega, by go_num, all_snoc HN.out (by rw [HJ.out]; simp [HK.out]), by (repeat' (first | (with_reducible exact Below.refl _ _) | (with_reducible refine Below.alloc ?_ ?_ _) | (with_reducible refine Below.drew ?_) | (with_reducible refine below_drewN ?_ _) | (with_reducible refine Below.setCell ?_ ?_ _) | (with_reducible refine below_via ‹_› ?_ ?_) | (with_reducible refine below_grow ?_ ?_ _ _) | omega | (simp; done) | (simp; omega)))⟩
              case measure => simp [intOf]; omega
            · have hne : ((j : Int) != (k : Int)) = true := by simp; omega
              have HK := hid hjk
              clear hjk
              cases hh : hasV f t fj
              · go_wp2_with (first | (go_at_call 53; refine (c_has _ _ _ _ _ (by assumption) (by assumption) (by assumption)).mono ?_; rintro e w1 ⟨rfl, hb⟩; obtain ⟨hc, hf⟩ := bcell hb; have hz := hb.size; (try simp at hz); (try have hz0 : ∀ b, b < w.heap.size → b < w1.heap.size := fun b h => by omega); (try have hz1 : w.heap.size < w1.heap.size := by omega); (try have hz2 : w.heap.size + 1 < w1.heap.size := by omega); (try have hz3 : w.heap.size + 2 < w1.heap.size := by omega)))
                go_roundw
                case rel => exact ⟨j + 1, by omega, by go_num, all_snoc HN.out (by rw [HJ.out, hh]; simp), by (repeat' (first | (with_reducible exact Below.refl _ _) | (with_reducible refine Below.alloc ?_ ?_ _) | (with_reducible refine Below.drew ?_) | (with_reducible refine below_drewN ?_ _) | (with_reducible refine Below.setCell ?_ ?_ _) | (with_reducible refine below_via ‹_› ?_ ?_) | (with_reducible refine below_grow ?_ ?_ _ _) | omega | (simp; done) | (simp; omega)))⟩
                case measure => simp [intOf]; omega
              · have HR := hid (imp_step hlt (show impS xs k = false by rw [impS, allB_false (k := j) (by rw [HJ.out, hh]; simp [HK.out]) hjt]; simp))
                go_wp2_with (first | (go_at_call 53; refine (c_has _ _ _ _ _ (by assumption) (by assumption) (by assumption)).mono ?_; rintro e w1 ⟨rfl, hb⟩; obtain ⟨hc, hf⟩ := bcell hb; have hz := hb.size; (try simp at hz); (try have hz0 : ∀ b, b < w.heap.size → b < w1.heap.size := fun b h => by omega); (try have hz1 : w.heap.size < w1.heap.size := by omega); (try have hz2 : w.heap.size + 1 < w1.heap.size := by omega); (try have hz3 : w.heap.size + 2 < w1.heap.size := by omega)))
                go_ret
                exact ⟨ret_bool HR.out.symm, by (repeat' (first | (with_reducible exact Below.refl _ _) | (with_reducible refine Below.alloc ?_ ?_ _) | (with_reducible refine Below.drew ?_) | (with_reducible refine below_drewN ?_ _) | (with_reducible refine Below.setCell ?_ ?_ _) | (with_reducible refine below_via ‹_› ?_ ?_) | (with_reducible refine below_grow ?_ ?_ _ _) | omega | (simp; done) | (simp; omega)))⟩
          · have ej : j = xs.length := by omega
            have HI := hid (show impS xs k = true by rw [impS, HSt.out, allB_true (fun i hi => HN.out i (by omega))]; rfl)
            have HT := hid (show totA (aA xs) (k + 1) = totA (aA xs) k + arcV f t by rw [totA, aA, HF.out.1, HF.out.2])
            have hab := arcV_bd f t
            clear ej
            go_wp2_with (first | (go_at_call 56; refine (c_arc _ _ _ _ (by assumption) (by assumption)).mono ?_; rintro e w1 ⟨rfl, hb⟩; obtain ⟨hc, hf⟩ := bcell hb; have hz := hb.size; (try simp at hz); (try have hz0 : ∀ b, b < w.heap.size → b < w1.heap.size := fun b h => by omega); (try have hz1 : w.heap.size < w1.heap.size := by omega); (try have hz2 : w.heap.size + 1 < w1.heap.size := by omega); (try have hz3 : w.heap.size + 2 < w1.heap.size := by omega)))
            go_roundw
            case rel => exact ⟨k + 1, by omega, by go_num, by rw [HT.out], all_snoc HA.out HI.out, by (repeat' (first | (with_reducible exact Below.refl _ _) | (with_reducible refine Below.alloc ?_ ?_ _) | (with_reducible refine Below.drew ?_) | (with_reducible refine below_drewN ?_ _) | (with_reducible refine Below.setCell ?_ ?_ _) | (with_reducible refine below_via ‹_› ?_ ?_) | (with_reducible refine below_grow ?_ ?_ _ _) | omega | (simp; done) | (simp; omega)))⟩
            case measure => simp [intOf]; omega
      · have hkI : (0 : Int) < k := by omega
        have hkd : decide (0 < k) = true := by simpa using h0
        have hk1 : (1 : Int) ≤ k := by omega
        have hk2 : (k : Int) - 1 < xs.length := by omega
        have hkn := pred_nat (k := k) h0
        have hkw := pred_wrap (k := k) (n := xs.length) h0 (by omega) hm
        have p0 := (hB1.cell (p := ⟨b, off + (k - 1) * 3 + 0, none⟩) hbb).trans (HX.out (k - 1) (by omega) 0 (by omega))
        simp only [encSector, List.getD_cons_zero, Nat.add_zero] at p0
        rw [fA_get (show k - 1 < xs.length by omega)] at hup
        have hd : decide (f ≤ xs[k - 1].fFrom) = false := by simp; omega
        have r3 := cellr p0
        clear hup
        (refine wp_region_quiet_below (by kernel_rfl) (by kernel_rfl) ?_; (repeat (first | go_big_quiet_step ((first | (go_at_call 80; exact regrown_bool (c_ValidSector f t c _ o3) (by assumption)))) | quiet_step ((first | (go_at_call 80; exact regrown_bool (c_ValidSector f t c _ o3) (by assumption)))))); refine wpQuiet_nil ?_; intro w1 hw'; have hb := below_of_regrown hw'; clear hw'; obtain ⟨hc, hf⟩ := bcell hb; have hz := hb.size; (try simp at hz); (try have hz0 : ∀ b, b < w.heap.size → b < w1.heap.size := fun b h => by omega); (try have hz1 : w.heap.size < w1.heap.size := by omega); (try have hz2 : w.heap.size + 1 < w1.heap.size := by omega); (try have hz3 : w.heap.size + 2 < w1.heap.size := by omega))
        have kz : wo.heap.size < w1.heap.size := by omega
        have k0 := (hb.cell (p := ⟨wo.heap.size, 0, none⟩) hzb).trans HRA.out.1
        have k1 := (hb.cell (p := ⟨wo.heap.size, 1, none⟩) hzb).trans HRA.out.2.1
        have k2 := (hb.cell (p := ⟨wo.heap.size, 2, none⟩) hzb).trans HRA.out.2.2
        have hB2 : Below w.heap.size w w1 := hB1.trans (hb.mono hzA)
        have hz2 := hB2.size
        have hbr2 : b < w1.heap.size := by omega
        (clear hc hf hb r0 r1 r2)
        (try clear r3 p0)
        go_wp2
        go_loopw [35] (fun i wr => ∃ j : Nat, j ≤ xs.length ∧ i = .int .i64 j ∧ (∀ i, i < j → noHas xs k i = true) ∧ Below w1.heap.size w1 wr) (fun i _ => xs.length - (intOf i).toNat)
        case atStart => exact ⟨0, Nat.zero_le _, rfl, fun i hi => by omega, by (repeat' (first | (with_reducible exact Below.refl _ _) | (with_reducible refine Below.alloc ?_ ?_ _) | (with_reducible refine Below.drew ?_) | (with_reducible refine below_drewN ?_ _) | (with_reducible refine Below.setCell ?_ ?_ _) | (with_reducible refine below_via ‹_› ?_ ?_) | (with_reducible refine below_grow ?_ ?_ _ _) | omega | (simp; done) | (simp; omega)))⟩
        case round =>
          obtain ⟨j, hj, rfl, hn, hB3⟩ := hrel
          have HN := hid hn; clear hn
          have hz3 := hB3.size
          have q0 := below_cell hB3 kz k0
          have q1 := below_cell hB3 kz k1
          have q2 := below_cell hB3 kz k2
          have hzq : wo.heap.size < wr.heap.size := by omega
          by_cases hjt : j < xs.length
          · have hjI : (j : Int) < xs.length := by omega
            have hB4 : Below w.heap.size w wr := hB2.trans (hB3.mono hz2)
            have g0 := (hB4.cell (p := ⟨b, off + j * 3 + 0, none⟩) hbb).trans (HX.out j hjt 0 (by omega))
            have g1 := (hB4.cell (p := ⟨b, off + j * 3 + 1, none⟩) hbb).trans (HX.out j hjt 1 (by omega))
            have g2 := (hB4.cell (p := ⟨b, off + j * 3 + 2, none⟩) hbb).trans (HX.out j hjt 2 (by omega))
            simp only [encSector, List.getD_cons_zero, List.getD_cons_succ, Nat.add_zero] at g0 g1 g2
            obtain ⟨oj, _, _⟩ := hok xs[j] (List.getElem_mem hjt)
            clear hB4
            have hfj := fA_get hjt
            obtain ⟨fj, hfe⟩ : ∃ f, f = xs[j].fFrom := ⟨_, rfl⟩
            rw [← hfe] at g0 oj hfj
            clear hfe
            have HJ := hid (show noHas xs k j = (decide (j = k) || !(hasV f t fj)) by rw [noHas, HF.out.1, HF.out.2, hfj])
            clear hfj
            by_cases hjk : j = k
            · have hne : ((j : Int) != (k : Int)) = false := by simp [hjk]
              have HK := hid hjk
              clear hjk
              go_wp2
              go_roundw
              case rel => exact ⟨j + 1, by omega, by go_num, all_snoc HN.out (by rw [HJ.out]; simp [HK.out]), by (repeat' (first | (with_reducible exact Below.refl _ _) | (with_reducible refine Below.alloc ?_ ?_ _) | (with_reducible refine Below.drew ?_) | (with_reducible refine below_drewN ?_ _) | (with_reducible refine Below.setCell ?_ ?_ _) | (with_reducible refine below_via ‹_› ?_ ?_) | (with_reducible refine below_grow ?_ ?_ _ _) | omega | (simp; done) | (simp; omega)))⟩
              case measure => simp [intOf]; omega
            · have hne : ((j : Int) != (k : Int)) = true := by simp; omega
              have HK := hid hjk
              clear hjk
              cases hh : hasV f t fj
              · go_wp2_with (first | (go_at_call 53; refine (c_has _ _ _ _ _ (by assumption) (by assumption) (by assumption)).mono ?_; rintro e w1 ⟨rfl, hb⟩; obtain ⟨hc, hf⟩ := bcell hb; have hz := hb.size; (try simp at hz); (try have hz0 : ∀ b, b < w.heap.size → b < w1.heap.size := fun b h => by omega); (try have hz1 : w.heap.size < w1.heap.size := by omega); (try have hz2 : w.heap.size + 1 < w1.heap.size := by omega); (try have hz3 : w.heap.size + 2 < w1.heap.size := by omega)))
                go_roundw
                case rel => exact ⟨j + 1, by omega, by go_num, all_snoc HN.out (by rw [HJ.out, hh]; simp), by (repeat' (first | (with_reducible exact Below.refl _ _) | (with_reducible refine Below.alloc ?_ ?_ _) | (with_reducible refine Below.drew ?_) | (with_reducible refine below_drewN ?_ _) | (with_reducible refine Below.setCell ?_ ?_ _) | (with_reducible refine below_via ‹_› ?_ ?_) | (with_reducible refine below_grow ?_ ?_ _ _) | omega | (simp; done) | (simp; omega)))⟩
                case measure => simp [intOf]; omega
              · have HR := hid (imp_step hlt (show impS xs k = false by rw [impS, allB_false (k := j) (by rw [HJ.out, hh]; simp [HK.out]) hjt]; simp))
                go_wp2_with (first | (go_at_call 53; refine (c_has _ _ _ _ _ (by assumption) (by assumption) (by assumption)).mono ?_; rintro e w1 ⟨rfl, hb⟩; obtain ⟨hc, hf⟩ := bcell hb; have hz := hb.size; (try simp at hz); (try have hz0 : ∀ b, b < w.heap.size → b < w1.heap.size := fun b h => by omega); (try have hz1 : w.heap.size < w1.heap.size := by omega); (try have hz2 : w.heap.size + 1 < w1.heap.size := by omega); (try have hz3 : w.heap.size + 2 < w1.heap.size := by omega)))
                go_ret
                exact ⟨ret_bool HR.out.symm, by (repeat' (first | (with_reducible exact Below.refl _ _) | (with_reducible refine Below.alloc ?_ ?_ _) | (with_reducible refine Below.drew ?_) | (with_reducible refine below_drewN ?_ _) | (with_reducible refine Below.setCell ?_ ?_ _) | (with_reducible refine below_via ‹_› ?_ ?_) | (with_reducible refine below_grow ?_ ?_ _ _) | omega | (simp; done) | (simp; omega)))⟩
          · have ej : j = xs.length := by omega
            have HI := hid (show impS xs k = true by rw [impS, HSt.out, allB_true (fun i hi => HN.out i (by omega))]; rfl)
            have HT := hid (show totA (aA xs) (k + 1) = totA (aA xs) k + arcV f t by rw [totA, aA, HF.out.1, HF.out.2])
            have hab := arcV_bd f t
            clear ej
            go_wp2_with (first | (go_at_call 56; refine (c_arc _ _ _ _ (by assumption) (by assumption)).mono ?_; rintro e w1 ⟨rfl, hb⟩; obtain ⟨hc, hf⟩ := bcell hb; have hz := hb.size; (try simp at hz); (try have hz0 : ∀ b, b < w.heap.size → b < w1.heap.size := fun b h => by omega); (try have hz1 : w.heap.size < w1.heap.size := by omega); (try have hz2 : w.heap.size + 1 < w1.heap.size := by omega); (try have hz3 : w.heap.size + 2 < w1.heap.size := by omega)))
            go_roundw
            case rel => exact ⟨k + 1, by omega, by go_num, by rw [HT.out], all_snoc HA.out HI.out, by (repeat' (first | (with_reducible exact Below.refl _ _) | (with_reducible refine Below.alloc ?_ ?_ _) | (with_reducible refine Below.drew ?_) | (with_reducible refine below_drewN ?_ _) | (with_reducible refine Below.setCell ?_ ?_ _) | (with_reducible refine below_via ‹_› ?_ ?_) | (with_reducible refine below_grow ?_ ?_ _ _) | omega | (simp; done) | (simp; omega)))⟩
            case measure => simp [intOf]; omega
    · have e : k = xs.length := by omega
      subst e
      have HR := hid (show secB xs = (decide ((xs.length : Int) ≤ 12) && decide (totA (aA xs) xs.length ≤ 360)) by rw [← imp_sec, impB, allB_true HA.out]; rfl)
      clear hx
      cases hq : decide ((xs.length : Int) ≤ 12)
      all_goals
        go_wp2_with (first | (go_at_call 55; refine (c_few _ _ _).mono ?_; rintro e w' ⟨rfl, rfl⟩))
        go_ret
        exact ⟨ret_bool (by rw [HR.out, hq]; rfl), by (repeat' (first | (with_reducible exact Below.refl _ _) | (with_reducible refine Below.alloc ?_ ?_ _) | (with_reducible refine Below.drew ?_) | (with_reducible refine below_drewN ?_ _) | (with_reducible refine Below.setCell ?_ ?_ _) | (with_reducible refine below_via ‹_› ?_ ?_) | (with_reducible refine below_grow ?_ ?_ _ _) | omega | (simp; done) | (simp; omega)))⟩
end Go.Proofs.YtabbhlehbhadiaaGreatDoor
