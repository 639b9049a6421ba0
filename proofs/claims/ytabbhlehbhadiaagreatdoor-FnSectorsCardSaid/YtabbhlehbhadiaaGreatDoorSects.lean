/- Lists of sectors: validity, on both sides. -/
import Derived.Test.YtabbhlehbhadiaaGreatDoorSect
namespace Go.Proofs.YtabbhlehbhadiaaGreatDoor
open Go.RowKit Go.Sort
set_option maxRecDepth 100000

def fA (xs : List SectorD) (i : Nat) : Int := match xs[i]? with | some d => d.fFrom | none => 0
def tA (xs : List SectorD) (i : Nat) : Int := match xs[i]? with | some d => d.fTo | none => 0
def aA (xs : List SectorD) (i : Nat) : Int := arcV (fA xs i) (tA xs i)
def oA (xs : List SectorD) (i : Nat) : Bool := match xs[i]? with | some d => sectD d | none => false
theorem fA_get {xs : List SectorD} {i : Nat} (h : i < xs.length) : fA xs i = xs[i].fFrom := by simp [fA, h]
theorem tA_get {xs : List SectorD} {i : Nat} (h : i < xs.length) : tA xs i = xs[i].fTo := by simp [tA, h]
theorem oA_get {xs : List SectorD} {i : Nat} (h : i < xs.length) : oA xs i = sectB xs[i].fFrom xs[i].fTo xs[i].fColor := by simp [oA, sectD, h]
def stepS (xs : List SectorD) (i : Nat) : Bool := oA xs i && (decide (i = 0) || decide (fA xs (i - 1) < fA xs i))
def gapS (xs : List SectorD) (i : Nat) : Bool := decide (aA xs i ≤ (fA xs ((i + 1) % xs.length) - fA xs i + 360) % 360)
def secB (xs : List SectorD) : Bool := decide ((xs.length : Int) ≤ 12) && (allB (stepS xs) xs.length && (decide (xs.length ≤ 1) || allB (gapS xs) xs.length))
def noHas (xs : List SectorD) (i k : Nat) : Bool := decide (k = i) || !(hasV (fA xs i) (tA xs i) (fA xs k))
def impS (xs : List SectorD) (i : Nat) : Bool := stepS xs i && allB (noHas xs i) xs.length
def impB (xs : List SectorD) : Bool := allB (impS xs) xs.length && (decide ((xs.length : Int) ≤ 12) && decide (totA (aA xs) xs.length ≤ 360))
theorem allB_iff {p : Nat → Bool} {n : Nat} : allB p n = true ↔ ∀ i, i < n → p i = true := ⟨of_allB, allB_true⟩
theorem stepS_bd {xs : List SectorD} {i : Nat} (h : stepS xs i = true) (hi : i < xs.length) : 0 ≤ fA xs i ∧ fA xs i ≤ 359 ∧ 0 ≤ tA xs i ∧ tA xs i ≤ 359 := by
  simp only [stepS, Bool.and_eq_true, oA_get hi, sectB] at h
  have h1 := inB_true h.1.1; have h2 := inB_true h.1.2.1
  rw [fA_get hi, tA_get hi]; omega
theorem stepS_up {xs : List SectorD} {i : Nat} (h : stepS xs i = true) (h0 : 0 < i) : fA xs (i - 1) < fA xs i := by
  simp only [stepS, Bool.and_eq_true, Bool.or_eq_true, decide_eq_true_eq] at h
  rcases h.2 with h | h
  · omega
  · exact h
theorem imp_sec (xs : List SectorD) : impB xs = secB xs := by
  rw [Bool.eq_iff_iff]
  simp only [impB, secB, Bool.and_eq_true, Bool.or_eq_true, allB_iff, decide_eq_true_eq, impS]
  constructor
  · rintro ⟨h, h12, -⟩
    have hs := fun i hi => (h i hi).1
    refine ⟨h12, hs, ?_⟩
    by_cases hn : xs.length ≤ 1
    · exact .inl hn
    · right
      intro i hi
      have hk : (i + 1) % xs.length < xs.length := Nat.mod_lt _ (by omega)
      have hne : (i + 1) % xs.length ≠ i := by
        by_cases e : i + 1 = xs.length
        · rw [e, Nat.mod_self]; omega
        · rw [Nat.mod_eq_of_lt (by omega)]; omega
      have hh := (h i hi).2 _ hk
      simp only [noHas, Bool.or_eq_true, decide_eq_true_eq, Bool.not_eq_true', hasV, decide_eq_false_iff_not] at hh
      rcases hh with hh | hh
      · exact absurd hh hne
      · have b1 := stepS_bd (hs i hi) hi
        have b2 := stepS_bd (hs _ hk) hk
        rw [IntWalk.wrap64_in _ ⟨by omega, by omega⟩] at hh
        simp only [gapS, aA, decide_eq_true_eq]
        rw [show (fA xs ((i + 1) % xs.length) - fA xs i + 360) % 360 = (fA xs ((i + 1) % xs.length) - fA xs i) % 360 by omega]
        exact decide_eq_true (Int.not_lt.1 hh)
  · rintro ⟨h12, hs, hg⟩
    have hf : ∀ i, 0 < i → i < xs.length → fA xs (i - 1) < fA xs i := fun i h0 hi => stepS_up (hs i hi) h0
    have hb : ∀ i, i < xs.length → 0 ≤ fA xs i ∧ fA xs i ≤ 359 := fun i hi => by have := stepS_bd (hs i hi) hi; omega
    have hg' : 1 < xs.length → ∀ i, i < xs.length → aA xs i ≤ (fA xs ((i + 1) % xs.length) - fA xs i + 360) % 360 := fun hn i hi => by
      rcases hg with hg | hg
      · omega
      · simpa [gapS] using hg i hi
    refine ⟨fun i hi => ⟨hs i hi, fun k hk => ?_⟩, h12, gap_tot hf hb hg' (fun i _ => (arcV_bd _ _).2)⟩
    simp only [noHas, Bool.or_eq_true, decide_eq_true_eq, Bool.not_eq_true', hasV, decide_eq_false_iff_not]
    by_cases e : k = i
    · exact .inl e
    · right
      have := gap_has hf hb (hg' (by omega)) i k hi hk e
      have b1 := hb i hi; have b2 := hb k hk
      rw [IntWalk.wrap64_in _ ⟨by omega, by omega⟩]
      simp only [aA] at this
      omega
theorem secB_step {xs : List SectorD} {k : Nat} (hk : k < xs.length) (h : stepS xs k = false) : secB xs = false := by
  simp [secB, allB_false h hk]
theorem secB_gap {xs : List SectorD} {k : Nat} (hk : k < xs.length) (hn : 1 < xs.length) (h : gapS xs k = false) : secB xs = false := by
  simp [secB, allB_false h hk]; omega
theorem tot_bd (xs : List SectorD) : ∀ n : Nat, (n : Int) ≤ totA (aA xs) n ∧ totA (aA xs) n ≤ 360 * n
  | 0 => by simp [totA]
  | n + 1 => by have := tot_bd xs n; have := arcV_bd (fA xs n) (tA xs n); simp only [totA, aA] at *; omega
end Go.Proofs.YtabbhlehbhadiaaGreatDoor
