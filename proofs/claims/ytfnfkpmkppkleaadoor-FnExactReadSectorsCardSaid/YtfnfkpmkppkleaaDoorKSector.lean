/- Marks of a slice of Sector. Printed by wip/genmark.py. -/
import Derived.Test.YtfnfkpmkppkleaaDoorMark
import Derived.Test.YtfnfkpmkppkleaaDoorMarkT
import Derived.Test.YtfnfkpmkppkleaaDoorTSector
namespace Go.Proofs.YtfnfkpmkppkleaaDoor
open Go.RowKit Go.Sort
set_option maxRecDepth 100000

def marksSector (m : Int) (n : Nat) : List SectorD := (List.range n).map fun (i : Nat) => ⟨m + 3 * (i : Int), m + 3 * (i : Int) + 1, mkB (m + 3 * (i : Int) + 1 + 1)⟩
@[simp] theorem marksSector_len (m : Int) (n : Nat) : (marksSector m n).length = n := by simp [marksSector]
theorem marksSector_get {m : Int} {n k : Nat} (h : k < (marksSector m n).length) : (marksSector m n)[k] = ⟨m + 3 * (k : Int), m + 3 * (k : Int) + 1, mkB (m + 3 * (k : Int) + 1 + 1)⟩ := by simp [marksSector]
set_option maxHeartbeats 2000000 in
theorem c_markSectorS (v : Value) (xs : List SectorD) (m : Int) (lo : Nat) (w : World) (h : SlO w lo 3 encSector v xs) (hl : xs.length ≤ 1099511627776) (h0 : 0 ≤ m) (h1 : m ≤ 1099511627776) :
    Calls Tryd.prog 54 #[v, .int .i64 m] w fun e w' => e = .returned (.int .i64 (m + 3 * xs.length)) ∧ w.grownBy w' v.ownBlock ∧ SlO w' lo 3 encSector v (marksSector m xs.length) := by
  rcases h.1 with ⟨a, cap, rfl, rfl, hcap⟩ | ⟨b, off, cap, rfl, hp, hc, hm, hlo, hb, hx⟩
  · have hO := hid h
    go_enter Tryd.func54, Tryd.ntmps54
    go_wp2
    refine wp_loop_rounds 1 ?_
    rw [rounds_succ]
    go_wp2
    go_ret
    exact ⟨ret_int (by simp), grownBy_refl _ _, hO.out⟩
  · have hM := MarkC.start (enc := encSector) (ys := marksSector m xs.length) (fun _ => rfl) h (by simp) hp
    unfold maxLen at hm
    have hfl := hid (flat_len (n := 3) encSector (fun _ => rfl) (marksSector m xs.length))
    have hbw := hb
    clear hx h
    go_enter Tryd.func54, Tryd.ntmps54
    go_wp2
    go_loopw [1, 5] (fun q i wr => ∃ k : Nat, k ≤ xs.length ∧ i = .int .i64 k ∧ q = .int .i64 (m + 3 * k) ∧ MarkC w wr b off ((marksSector m xs.length).flatMap encSector) (k * 3)) (fun _ i _ => xs.length - (intOf i).toNat)
    case atStart => exact ⟨0, Nat.zero_le _, rfl, by simp, by simpa using hM⟩
    case round =>
      clear hM
      obtain ⟨k, hk, rfl, rfl, hM⟩ := hrel
      by_cases hlt : k < xs.length
      · have hzr := hM.1.size
        have hbr : b < wr.heap.size := by omega
        have hlI : (k : Int) < xs.length := by omega
        obtain ⟨u0, hu0⟩ := hM.2.2.2.1 (k * 3) (by rw [hfl.out]; simp; omega)
        obtain ⟨u1, hu1⟩ := hM.2.2.2.1 (k * 3 + 1) (by rw [hfl.out]; simp; omega)
        obtain ⟨u2, hu2⟩ := hM.2.2.2.1 (k * 3 + 2) (by rw [hfl.out]; simp; omega)
        simp only [← Nat.add_assoc] at hu0 hu1 hu2
        have hfz := hM.2.2.1
        have hM' := hid hM
        clear hM
        go_wp2_with fail
        refine (c_markText _ _ (by omega) (by omega)).mono ?_
        rintro e w1 ⟨rfl, hb1⟩
        obtain ⟨hc1, hf1⟩ := bcell hb1; have hz1 := hb1.size; (try simp at hz1); (try have hy1 : b < w1.heap.size := by omega)
        go_wp2_with fail
        go_roundw
        case rel =>
          have F := fun j hj => (flat_get (n := 3) encSector (fun _ => rfl) (marksSector m xs.length) k (by simpa using hlt) j hj).symm
          simp only [marksSector_get, encSector] at F
          refine ⟨k + 1, by omega, by go_num, by go_num, ?_⟩
          have E : MarkC w _ b off ((marksSector m xs.length).flatMap encSector) ((k + 1) * 3) := ((((hM'.out.set (by rw [hfl.out]; simp; omega) (F 0 (by omega)) rfl).set (by rw [hfl.out]; simp; omega) (F 1 (by omega)) rfl).below (hb1.mono (by first | omega | (simp; omega)))).set (by rw [hfl.out]; simp; omega) (F 2 (by omega)) (by omega))
          simp only [← Nat.add_assoc] at E
          exact E
        case measure => simp [intOf]; omega
      · have e : k = xs.length := by omega
        subst e
        go_wp2
        go_ret
        have hS := MarkC.own (enc := encSector) (n := 3) (lo := lo) (cap := cap) (fun _ => rfl) (ys := marksSector m xs.length) (by simpa using hM) hlo (by simp; omega) (by unfold maxLen; omega)
        simp only [marksSector_len] at hS
        exact ⟨rfl, hM.1, hS⟩
set_option maxHeartbeats 2000000 in
theorem c_heldSectorS (v : Value) (n : Nat) (m : Int) (lo : Nat) (w : World) (h : SlA w lo 3 encSector v (marksSector m n)) (hl : n ≤ 1099511627776) (h0 : 0 ≤ m) (h1 : m ≤ 1099511627776) :
    Calls Tryd.prog 55 #[v, .int .i64 m] w fun e w' => e = .returned (.int .i64 (m + 3 * n)) ∧ Below w.heap.size w w' := by
  obtain ⟨ad, cap, b, off, rfl, hm, had, hx⟩ := h.uni
  simp only [marksSector_len] at had hm hx ⊢
  simp only [marksSector_get] at hx
  go_enter Tryd.func55, Tryd.ntmps55
  go_wp2
  go_loopw [1, 5] (fun q i wr => ∃ k : Nat, k ≤ n ∧ i = .int .i64 k ∧ q = .int .i64 (m + 3 * k) ∧ Below w.heap.size w wr) (fun _ i _ => n - (intOf i).toNat)
  case atStart => exact ⟨0, Nat.zero_le _, rfl, by simp, by (repeat' (first | (with_reducible exact Below.refl _ _) | (with_reducible refine Below.alloc ?_ ?_ _) | (with_reducible refine Below.drew ?_) | (with_reducible refine below_drewN ?_ _) | (with_reducible refine Below.setCell ?_ ?_ _) | (with_reducible refine below_via ‹_› ?_ ?_) | (with_reducible refine below_grow ?_ ?_ _ _) | omega | (simp; done) | (simp; omega)))⟩
  case round =>
    obtain ⟨k, hk, rfl, rfl, hB⟩ := hrel
    have hzr := hB.size
    by_cases hlt : k < n
    · obtain ⟨rfl, hb, -, hcap, hmc⟩ := had (by omega)
      have hlI : (k : Int) < n := by omega
      have hbr : b < wr.heap.size := by omega
      have g0 := below_cell hB hb (hx k hlt 0 (by omega))
      have g1 := below_cell hB hb (hx k hlt 1 (by omega))
      have g2 := below_cell hB hb (hx k hlt 2 (by omega))
      simp only [encSector, List.getD_cons_zero, List.getD_cons_succ, Nat.add_zero] at g0 g1 g2
      have r2 := cellr g2
      clear hx had
      go_wp2
      have hs2 : ((mkB (m + 3 * (k : Int) + 1 + 1)).toList != (mkB (m + 3 * (k : Int) + 1 + 1)).toList) = false := by simp
      (refine wp_region_quiet_below (by kernel_rfl) (by kernel_rfl) ?_; (repeat (first | go_big_quiet_step ((first | (go_at_call 114; exact regrown_of (c_markText _ _ (by omega) (by omega))))) | quiet_step ((first | (go_at_call 114; exact regrown_of (c_markText _ _ (by omega) (by omega))))))); refine wpQuiet_nil ?_; intro w1 hw'; have hb := below_of_regrown hw'; clear hw'; obtain ⟨hc, hf⟩ := bcell hb; have hz := hb.size; (try simp at hz); (try have hz0 : ∀ b, b < w.heap.size → b < w1.heap.size := fun b h => by omega); (try have hz1 : w.heap.size < w1.heap.size := by omega); (try have hz2 : w.heap.size + 1 < w1.heap.size := by omega); (try have hz3 : w.heap.size + 2 < w1.heap.size := by omega))
      go_wp2
      go_roundw
      case rel => exact ⟨k + 1, by omega, by go_num, by go_num, by (repeat' (first | (with_reducible exact Below.refl _ _) | (with_reducible refine Below.alloc ?_ ?_ _) | (with_reducible refine Below.drew ?_) | (with_reducible refine below_drewN ?_ _) | (with_reducible refine Below.setCell ?_ ?_ _) | (with_reducible refine below_via ‹_› ?_ ?_) | (with_reducible refine below_grow ?_ ?_ _ _) | omega | (simp; done) | (simp; omega)))⟩
      case measure => simp [intOf]; omega
    · have e : k = n := by omega
      subst e
      go_wp2
      go_ret
      exact ⟨rfl, by (repeat' (first | (with_reducible exact Below.refl _ _) | (with_reducible refine Below.alloc ?_ ?_ _) | (with_reducible refine Below.drew ?_) | (with_reducible refine below_drewN ?_ _) | (with_reducible refine Below.setCell ?_ ?_ _) | (with_reducible refine below_via ‹_› ?_ ?_) | (with_reducible refine below_grow ?_ ?_ _ _) | omega | (simp; done) | (simp; omega)))⟩
end Go.Proofs.YtfnfkpmkppkleaaDoor
