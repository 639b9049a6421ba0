/- The arc that is lit, on both sides. -/
import Derived.Test.YtabbhlehbhadiaaGreatDoorSectsW
namespace Go.Proofs.YtabbhlehbhadiaaGreatDoor
open Go.RowKit Go.Sort
set_option maxRecDepth 100000

theorem secB_all {xs : List SectorD} (h : secB xs = true) : xs.length ≤ 12 ∧ (∀ i, i < xs.length → bearB (fA xs i) = true ∧ bearB (tA xs i) = true) ∧ (∀ i, i < xs.length → stepS xs i = true) := by
  simp only [secB, Bool.and_eq_true, decide_eq_true_eq, allB_iff] at h
  refine ⟨by omega, fun i hi => ?_, h.2.1⟩
  have := stepS_bd (h.2.1 i hi) hi
  exact ⟨inB_of (by omega) (by omega), inB_of (by omega) (by omega)⟩
def litV (xs : List SectorD) : Int := if secB xs then totA (aA xs) xs.length else 0
def secC (xs : List SectorD) : Int := if secB xs then 0 else 1
set_option maxHeartbeats 1000000 in
theorem c_litArc (v : Value) (xs : List SectorD) (w : World) (h : SlA w 0 3 encSector v xs) (hs : secB xs = true) :
    Calls Tryz.prog 59 #[v] w fun e w' => e = .returned (.int .i64 (totA (aA xs) xs.length)) ∧ Below w.heap.size w w' := by
  obtain ⟨ad, cap, b, off, rfl, hm, had, hx⟩ := h.uni
  obtain ⟨h12, hbe, -⟩ := secB_all hs
  have HX := hid hx
  have HBE := hid hbe
  clear hx hbe
  go_enter Tryz.func59, Tryz.ntmps59
  go_wp2
  go_loopw [3, 8] (fun q i wr => ∃ k : Nat, k ≤ xs.length ∧ i = .int .i64 k ∧ q = .int .i64 (totA (aA xs) k) ∧ Below w.heap.size w wr) (fun _ i _ => xs.length - (intOf i).toNat)
  case atStart => exact ⟨0, Nat.zero_le _, rfl, rfl, by (repeat' (first | (with_reducible exact Below.refl _ _) | (with_reducible refine Below.alloc ?_ ?_ _) | (with_reducible refine Below.drew ?_) | (with_reducible refine below_drewN ?_ _) | (with_reducible refine Below.setCell ?_ ?_ _) | (with_reducible refine below_via ‹_› ?_ ?_) | (with_reducible refine below_grow ?_ ?_ _ _) | omega | (simp; done) | (simp; omega)))⟩
  case round =>
    obtain ⟨k, hk, rfl, rfl, hB⟩ := hrel
    have htb := tot_bd xs k
    have hzr := hB.size
    by_cases hlt : k < xs.length
    · have hlI : (k : Int) < xs.length := by omega
      obtain ⟨rfl, hbb, -, hcc, hmc⟩ := had (by omega)
      have g0 := (hB.cell (p := ⟨b, off + k * 3 + 0, none⟩) hbb).trans (HX.out k hlt 0 (by omega))
      have g1 := (hB.cell (p := ⟨b, off + k * 3 + 1, none⟩) hbb).trans (HX.out k hlt 1 (by omega))
      have g2 := (hB.cell (p := ⟨b, off + k * 3 + 2, none⟩) hbb).trans (HX.out k hlt 2 (by omega))
      simp only [encSector, List.getD_cons_zero, List.getD_cons_succ, Nat.add_zero] at g0 g1 g2
      have hb2 := HBE.out k hlt
      rw [fA_get hlt, tA_get hlt] at hb2
      obtain ⟨hf, ht⟩ := hb2
      have hab := arcV_bd xs[k].fFrom xs[k].fTo
      have HT := hid (show totA (aA xs) (k + 1) = totA (aA xs) k + arcV xs[k].fFrom xs[k].fTo by rw [totA, aA, fA_get hlt, tA_get hlt])
      go_wp2_with (first | (go_at_call 56; refine (c_arc _ _ _ _ (by assumption) (by assumption)).mono ?_; rintro e w1 ⟨rfl, hb⟩; obtain ⟨hc, hf⟩ := bcell hb; have hz := hb.size; (try simp at hz); (try have hz0 : ∀ b, b < w.heap.size → b < w1.heap.size := fun b h => by omega); (try have hz1 : w.heap.size < w1.heap.size := by omega); (try have hz2 : w.heap.size + 1 < w1.heap.size := by omega); (try have hz3 : w.heap.size + 2 < w1.heap.size := by omega)))
      go_roundw
      case rel => exact ⟨k + 1, by omega, by go_num, by rw [HT.out], by (repeat' (first | (with_reducible exact Below.refl _ _) | (with_reducible refine Below.alloc ?_ ?_ _) | (with_reducible refine Below.drew ?_) | (with_reducible refine below_drewN ?_ _) | (with_reducible refine Below.setCell ?_ ?_ _) | (with_reducible refine below_via ‹_› ?_ ?_) | (with_reducible refine below_grow ?_ ?_ _ _) | omega | (simp; done) | (simp; omega)))⟩
      case measure => simp [intOf]; omega
    · have e : k = xs.length := by omega
      subst e
      go_wp2
      go_ret
      exact ⟨rfl, by (repeat' (first | (with_reducible exact Below.refl _ _) | (with_reducible refine Below.alloc ?_ ?_ _) | (with_reducible refine Below.drew ?_) | (with_reducible refine below_drewN ?_ _) | (with_reducible refine Below.setCell ?_ ?_ _) | (with_reducible refine below_via ‹_› ?_ ?_) | (with_reducible refine below_grow ?_ ?_ _ _) | omega | (simp; done) | (simp; omega)))⟩
theorem c_impl_LitArc (v : Value) (xs : List SectorD) (w : World) (h : SlA w 0 3 encSector v xs) (hok : ∀ x ∈ xs, okSector x) (hl : xs.length ≤ 1048576) :
    Calls Tryz.prog 22 #[v] w fun e w' => e = .returned (.tuple #[.int .i64 (litV xs), .int .i64 (secC xs)]) ∧ Below w.heap.size w w' := by
  cases hq1 : secB xs
  · go_enter Tryz.func22, Tryz.ntmps22
    go_wp2_with (first | (go_at_call 49; refine (c_impl_ValidSectors _ _ _ (by first | (with_reducible assumption) | (with_reducible apply SlO.at; (with_reducible assumption); (repeat' (first | (with_reducible exact Below.refl _ _) | (with_reducible refine Below.alloc ?_ ?_ _) | (with_reducible refine Below.drew ?_) | (with_reducible refine below_drewN ?_ _) | (with_reducible refine Below.setCell ?_ ?_ _) | (with_reducible refine below_via ‹_› ?_ ?_) | (with_reducible refine below_grow ?_ ?_ _ _) | omega | (simp; done) | (simp; omega))); done) | (with_reducible apply SlA.at; (with_reducible assumption); (repeat' (first | (with_reducible exact Below.refl _ _) | (with_reducible refine Below.alloc ?_ ?_ _) | (with_reducible refine Below.drew ?_) | (with_reducible refine below_drewN ?_ _) | (with_reducible refine Below.setCell ?_ ?_ _) | (with_reducible refine below_via ‹_› ?_ ?_) | (with_reducible refine below_grow ?_ ?_ _ _) | omega | (simp; done) | (simp; omega))); done)) (by assumption) (by omega)).mono ?_; rintro e w1 ⟨rfl, hb⟩; obtain ⟨hc, hf⟩ := bcell hb; have hz := hb.size; (try simp at hz); (try have hz0 : ∀ b, b < w.heap.size → b < w1.heap.size := fun b h => by omega); (try have hz1 : w.heap.size < w1.heap.size := by omega); (try have hz2 : w.heap.size + 1 < w1.heap.size := by omega); (try have hz3 : w.heap.size + 2 < w1.heap.size := by omega)) | (go_at_call 59; refine (c_litArc _ _ _ (by first | (with_reducible assumption) | (with_reducible apply SlO.at; (with_reducible assumption); (repeat' (first | (with_reducible exact Below.refl _ _) | (with_reducible refine Below.alloc ?_ ?_ _) | (with_reducible refine Below.drew ?_) | (with_reducible refine below_drewN ?_ _) | (with_reducible refine Below.setCell ?_ ?_ _) | (with_reducible refine below_via ‹_› ?_ ?_) | (with_reducible refine below_grow ?_ ?_ _ _) | omega | (simp; done) | (simp; omega))); done) | (with_reducible apply SlA.at; (with_reducible assumption); (repeat' (first | (with_reducible exact Below.refl _ _) | (with_reducible refine Below.alloc ?_ ?_ _) | (with_reducible refine Below.drew ?_) | (with_reducible refine below_drewN ?_ _) | (with_reducible refine Below.setCell ?_ ?_ _) | (with_reducible refine below_via ‹_› ?_ ?_) | (with_reducible refine below_grow ?_ ?_ _ _) | omega | (simp; done) | (simp; omega))); done)) (by assumption)).mono ?_; rintro e w1 ⟨rfl, hb⟩; obtain ⟨hc, hf⟩ := bcell hb; have hz := hb.size; (try simp at hz); (try have hz0 : ∀ b, b < w.heap.size → b < w1.heap.size := fun b h => by omega); (try have hz1 : w.heap.size < w1.heap.size := by omega); (try have hz2 : w.heap.size + 1 < w1.heap.size := by omega); (try have hz3 : w.heap.size + 2 < w1.heap.size := by omega)))
    go_ret2
    exact ⟨by simp [litV, secC, *], by (repeat' (first | (with_reducible exact Below.refl _ _) | (with_reducible refine Below.alloc ?_ ?_ _) | (with_reducible refine Below.drew ?_) | (with_reducible refine below_drewN ?_ _) | (with_reducible refine Below.setCell ?_ ?_ _) | (with_reducible refine below_via ‹_› ?_ ?_) | (with_reducible refine below_grow ?_ ?_ _ _) | omega | (simp; done) | (simp; omega)))⟩
  go_enter Tryz.func22, Tryz.ntmps22
  go_wp2_with (first | (go_at_call 49; refine (c_impl_ValidSectors _ _ _ (by first | (with_reducible assumption) | (with_reducible apply SlO.at; (with_reducible assumption); (repeat' (first | (with_reducible exact Below.refl _ _) | (with_reducible refine Below.alloc ?_ ?_ _) | (with_reducible refine Below.drew ?_) | (with_reducible refine below_drewN ?_ _) | (with_reducible refine Below.setCell ?_ ?_ _) | (with_reducible refine below_via ‹_› ?_ ?_) | (with_reducible refine below_grow ?_ ?_ _ _) | omega | (simp; done) | (simp; omega))); done) | (with_reducible apply SlA.at; (with_reducible assumption); (repeat' (first | (with_reducible exact Below.refl _ _) | (with_reducible refine Below.alloc ?_ ?_ _) | (with_reducible refine Below.drew ?_) | (with_reducible refine below_drewN ?_ _) | (with_reducible refine Below.setCell ?_ ?_ _) | (with_reducible refine below_via ‹_› ?_ ?_) | (with_reducible refine below_grow ?_ ?_ _ _) | omega | (simp; done) | (simp; omega))); done)) (by assumption) (by omega)).mono ?_; rintro e w1 ⟨rfl, hb⟩; obtain ⟨hc, hf⟩ := bcell hb; have hz := hb.size; (try simp at hz); (try have hz0 : ∀ b, b < w.heap.size → b < w1.heap.size := fun b h => by omega); (try have hz1 : w.heap.size < w1.heap.size := by omega); (try have hz2 : w.heap.size + 1 < w1.heap.size := by omega); (try have hz3 : w.heap.size + 2 < w1.heap.size := by omega)) | (go_at_call 59; refine (c_litArc _ _ _ (by first | (with_reducible assumption) | (with_reducible apply SlO.at; (with_reducible assumption); (repeat' (first | (with_reducible exact Below.refl _ _) | (with_reducible refine Below.alloc ?_ ?_ _) | (with_reducible refine Below.drew ?_) | (with_reducible refine below_drewN ?_ _) | (with_reducible refine Below.setCell ?_ ?_ _) | (with_reducible refine below_via ‹_› ?_ ?_) | (with_reducible refine below_grow ?_ ?_ _ _) | omega | (simp; done) | (simp; omega))); done) | (with_reducible apply SlA.at; (with_reducible assumption); (repeat' (first | (with_reducible exact Below.refl _ _) | (with_reducible refine Below.alloc ?_ ?_ _) | (with_reducible refine Below.drew ?_) | (with_reducible refine below_drewN ?_ _) | (with_reducible refine Below.setCell ?_ ?_ _) | (with_reducible refine below_via ‹_› ?_ ?_) | (with_reducible refine below_grow ?_ ?_ _ _) | omega | (simp; done) | (simp; omega))); done)) (by assumption)).mono ?_; rintro e w1 ⟨rfl, hb⟩; obtain ⟨hc, hf⟩ := bcell hb; have hz := hb.size; (try simp at hz); (try have hz0 : ∀ b, b < w.heap.size → b < w1.heap.size := fun b h => by omega); (try have hz1 : w.heap.size < w1.heap.size := by omega); (try have hz2 : w.heap.size + 1 < w1.heap.size := by omega); (try have hz3 : w.heap.size + 2 < w1.heap.size := by omega)))
  go_ret2
  exact ⟨by simp [litV, secC, *], by (repeat' (first | (with_reducible exact Below.refl _ _) | (with_reducible refine Below.alloc ?_ ?_ _) | (with_reducible refine Below.drew ?_) | (with_reducible refine below_drewN ?_ _) | (with_reducible refine Below.setCell ?_ ?_ _) | (with_reducible refine below_via ‹_› ?_ ?_) | (with_reducible refine below_grow ?_ ?_ _ _) | omega | (simp; done) | (simp; omega)))⟩
end Go.Proofs.YtabbhlehbhadiaaGreatDoor
