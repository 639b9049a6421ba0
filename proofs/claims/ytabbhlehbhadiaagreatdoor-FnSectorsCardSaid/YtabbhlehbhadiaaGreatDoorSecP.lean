/- What FnSectors asks, of circles of colors. Plain. -/
import Derived.Test.YtabbhlehbhadiaaGreatDoorPaintS
import Derived.Test.YtabbhlehbhadiaaGreatDoorSpecS
import Derived.Test.YtabbhlehbhadiaaGreatDoorSectP
namespace Go.Proofs.YtabbhlehbhadiaaGreatDoor
open Go.RowKit Go.Sort
set_option linter.unusedVariables false
set_option maxRecDepth 100000

/-! ### counting bearings -/
def cntB (p : Int → Bool) : Nat → Int
  | 0 => 0
  | n + 1 => cntB p n + (if p n then 1 else 0)
theorem cntB_congr {p q : Int → Bool} : ∀ n : Nat, (∀ d : Int, 0 ≤ d → d < n → p d = q d) → cntB p n = cntB q n
  | 0, _ => rfl
  | n + 1, h => by rw [cntB, cntB, cntB_congr n (fun d h0 h1 => h d h0 (by omega)), h n (by omega) (by omega)]
theorem cntB_or {p q : Int → Bool} : ∀ n : Nat, (∀ d : Int, 0 ≤ d → d < n → p d = true → q d = false) → cntB (fun d => p d || q d) n = cntB p n + cntB q n
  | 0, _ => rfl
  | n + 1, h => by
    have ih := cntB_or n fun d h0 h1 => h d h0 (by omega)
    have h1 := h n (by omega) (by omega)
    simp only [cntB]
    rw [ih]
    by_cases hp : p n = true
    · have hq := h1 hp
      simp only [hp, hq, Bool.or_false, if_true, Bool.false_eq_true, if_false]; omega
    · have hp' : p n = false := by simpa using hp
      simp only [hp', Bool.false_or, Bool.false_eq_true, if_false]; omega
theorem cntB_not (p : Int → Bool) : ∀ n : Nat, cntB p n + cntB (fun d => !p d) n = n
  | 0 => rfl
  | n + 1 => by
    have ih := cntB_not p n
    simp only [cntB]
    by_cases hp : p n = true
    · simp only [hp, Bool.not_true, if_true, Bool.false_eq_true, if_false]; omega
    · have hp' : p n = false := by simpa using hp
      simp only [hp', Bool.not_false, if_true, Bool.false_eq_true, if_false]; omega
theorem cntB_next (p : Int → Bool) : ∀ n : Nat, cntB (fun d => p (d + 1)) n + (if p 0 then 1 else 0) = cntB p (n + 1)
  | 0 => by simp [cntB]
  | n + 1 => by
    have ih := cntB_next p n
    rw [cntB, cntB]
    have e : ((n + 1 : Nat) : Int) = (n : Int) + 1 := by omega
    rw [e]
    omega
theorem cntB_rot (p : Int → Bool) : ∀ s : Nat, cntB (fun d => p ((d + s) % 360)) 360 = cntB p 360
  | 0 => cntB_congr 360 fun d h0 h1 => by rw [show (d + ((0 : Nat) : Int)) % 360 = d by omega]
  | s + 1 => by
    rw [← cntB_rot p s]
    have h := cntB_next (fun d => p ((d + s) % 360)) 360
    have h2 : cntB (fun d => p ((d + s) % 360)) (360 + 1) = cntB (fun d => p ((d + s) % 360)) 360 + (if p ((((360 : Nat) : Int) + s) % 360) then 1 else 0) := rfl
    rw [h2] at h
    have e : (((360 : Nat) : Int) + s) % 360 = (0 + s) % 360 := by omega
    rw [e] at h
    have h3 : cntB (fun d => p ((d + ((s + 1 : Nat) : Int)) % 360)) 360 = cntB (fun d => p ((d + 1 + s) % 360)) 360 := cntB_congr 360 fun d h0 h1 => by rw [show d + ((s + 1 : Nat) : Int) = d + 1 + s by omega]
    rw [h3]
    omega
theorem cntB_less (a : Int) (h : 0 ≤ a) : ∀ n : Nat, cntB (fun d => decide (d < a)) n = min a n
  | 0 => by simp [cntB]; omega
  | n + 1 => by
    rw [cntB, cntB_less a h n]
    by_cases hc : (n : Int) < a
    · simp [hc]; omega
    · simp [hc]; omega
theorem cntB_back (p : Int → Bool) (a : Int) (h0 : 0 ≤ a) (h1 : a < 360) : cntB (fun d => p ((d - a) % 360)) 360 = cntB p 360 := by
  rw [← cntB_rot p (360 - a).toNat]
  refine cntB_congr 360 fun d d0 d1 => ?_
  rw [show (d + ((360 - a).toNat : Int)) % 360 = (d - a) % 360 by omega]
theorem cntB_arc (f a : Int) (h0 : 0 ≤ f) (h1 : f ≤ 359) (a0 : 0 ≤ a) (a1 : a ≤ 360) : cntB (fun d => decide ((d - f) % 360 < a)) 360 = a := by
  rw [cntB_back (fun x => decide (x < a)) f h0 (by omega), cntB_less a a0]
  omega
/-- some of the first n sectors has a bearing -/
def anyI (L : List SectorD) : Nat → Int → Bool
  | 0, _ => false
  | n + 1, d => anyI L n d || hasI L n d
theorem anyI_iff (L : List SectorD) (d : Int) : ∀ n : Nat, anyI L n d = true ↔ ∃ i, i < n ∧ hasI L i d = true
  | 0 => by simp [anyI]
  | n + 1 => by
    rw [anyI, Bool.or_eq_true, anyI_iff L d n]
    constructor
    · rintro (⟨i, h1, h2⟩ | h)
      · exact ⟨i, by omega, h2⟩
      · exact ⟨n, by omega, h⟩
    · rintro ⟨i, h1, h2⟩
      by_cases e : i = n
      · subst e; exact .inr h2
      · exact .inl ⟨i, by omega, h2⟩
theorem tot_cnt {L : List SectorD} : ∀ n : Nat, n ≤ L.length → (∀ i j, i < j → j < n → ∀ d : Int, 0 ≤ d → d < 360 → hasI L i d = true → hasI L j d = false) → (∀ i, i < n → 0 ≤ fA L i ∧ fA L i ≤ 359) → totA (aA L) n = cntB (anyI L n) 360
  | 0, _, _, _ => by
    have h : ∀ m : Nat, cntB (anyI L 0) m = 0 := fun m => by
      induction m with
      | zero => rfl
      | succ m ih => rw [cntB, ih]; rfl
    rw [h]; rfl
  | n + 1, hn, hd, hf => by
    have ih := tot_cnt n (by omega) (fun i j h1 h2 => hd i j h1 (by omega)) fun i hi => hf i (by omega)
    have e : cntB (anyI L (n + 1)) 360 = cntB (fun d => anyI L n d || hasI L n d) 360 := rfl
    rw [e, cntB_or 360 (fun d h0 h1 h => by
      obtain ⟨i, hi, h2⟩ := (anyI_iff L d n).1 h
      exact hd i n hi (by omega) d h0 (by omega) h2), totA, ih]
    have b := hf n (by omega)
    have a := arcV_bd (fA L n) (tA L n)
    have h2 : cntB (hasI L n) 360 = aA L n := cntB_arc (fA L n) (aA L n) b.1 b.2 (by unfold aA; omega) (by unfold aA; omega)
    rw [h2]

/-! ### runs of one color -/
theorem first_bad : ∀ (n : Nat) (p : Nat → Bool), p n = false → ∃ k, k ≤ n ∧ p k = false ∧ ∀ j, j < k → p j = true
  | 0, p, h => ⟨0, Nat.le_refl _, h, fun j hj => by omega⟩
  | n + 1, p, h => by
    cases h0 : p 0 with
    | false => exact ⟨0, Nat.zero_le _, h0, fun j hj => by omega⟩
    | true =>
      obtain ⟨k, h1, h2, h3⟩ := first_bad n (fun j => p (j + 1)) h
      refine ⟨k + 1, by omega, h2, fun j hj => ?_⟩
      cases j with
      | zero => exact h0
      | succ j => exact h3 j (by omega)
theorem run_of {c : Circ} {d : Int} (h0 : 0 ≤ d) (h1 : d < 360) (hs : stB c d = true) : ∃ a : Nat, 1 ≤ a ∧ a ≤ 359 ∧ (∀ k : Nat, k < a → c ((d + k) % 360) = c d) ∧ c ((d + a) % 360) ≠ c d ∧ endC c d = (d + a) % 360 := by
  obtain ⟨a, a1, a2, a3⟩ := first_bad 359 (fun k => decide (c ((d + k) % 360) = c d)) (decide_eq_false fun e => st_ne hs e.symm)
  have ha : 1 ≤ a := by
    cases a with
    | zero =>
      simp only [decide_eq_false_iff_not] at a2
      exact absurd (by rw [show (d + ((0 : Nat) : Int)) % 360 = d by omega]) a2
    | succ a => omega
  have a2' := of_decide_eq_false a2
  have a3' : ∀ k : Nat, k < a → c ((d + k) % 360) = c d := fun k hk => of_decide_eq_true (a3 k hk)
  refine ⟨a, ha, a1, a3', a2', ?_⟩
  unfold endC
  rw [endF_at c d 720 d (d + a) (by omega) (by omega) (fun x hx0 hx1 => by
    have := a3' (x - d).toNat (by omega)
    rw [show d + ((x - d).toNat : Int) = x by omega] at this; exact this) a2']
theorem arc_run {c : Circ} {d : Int} (h0 : 0 ≤ d) (h1 : d < 360) {a : Nat} (a1 : 1 ≤ a) (a2 : a ≤ 359) (h : endC c d = (d + a) % 360) : arcV d (endC c d) = a := by
  rw [h]; unfold arcV; omega
theorem runs_apart {c : Circ} {d d' x : Int} (h0 : 0 ≤ d) (h1 : d < 360) (hs : stB c d = true) (h0' : 0 ≤ d') (h1' : d' < 360) (hs' : stB c d' = true) (hne : d ≠ d')
    (hx : (x - d) % 360 < arcV d (endC c d)) (hx' : (x - d') % 360 < arcV d' (endC c d')) : (x - d) % 360 ≤ (x - d') % 360 → False := fun hle => by
  obtain ⟨a, a1, a2, a3, a5, a4⟩ := run_of h0' h1' hs'
  rw [arc_run h0' h1' a1 a2 a4] at hx'
  obtain ⟨j, hj⟩ : ∃ j : Nat, (x - d') % 360 - (x - d) % 360 = j := ⟨((x - d') % 360 - (x - d) % 360).toNat, by omega⟩
  have hj0 : 1 ≤ j := by omega
  have e1 := a3 j (by omega)
  have e2 := a3 (j - 1) (by omega)
  rw [show (d' + (j : Int)) % 360 = d by omega] at e1
  rw [show (d' + ((j - 1 : Nat) : Int)) % 360 = (d + 359) % 360 by omega] at e2
  exact st_ne hs (by rw [e1, e2])
theorem runs_one {c : Circ} {d d' x : Int} (h0 : 0 ≤ d) (h1 : d < 360) (hs : stB c d = true) (h0' : 0 ≤ d') (h1' : d' < 360) (hs' : stB c d' = true) (hne : d ≠ d')
    (hx : (x - d) % 360 < arcV d (endC c d)) : ¬ (x - d') % 360 < arcV d' (endC c d') := fun hx' => by
  by_cases h : (x - d) % 360 ≤ (x - d') % 360
  · exact runs_apart h0 h1 hs h0' h1' hs' hne hx hx' h
  · exact runs_apart h0' h1' hs' h0 h1 hs (Ne.symm hne) hx' hx (by omega)
theorem back_const {c : Circ} {d : Int} (k : Nat) (hk : ∀ j : Nat, j < k → stB c ((d - j) % 360) = false) : ∀ j : Nat, j ≤ k → c ((d - j) % 360) = c (d % 360)
  | 0, _ => by rw [show d - ((0 : Nat) : Int) = d by omega]
  | j + 1, hj => by
    have ih := back_const k hk j (by omega)
    have h := hk j (by omega)
    simp only [stB, Bool.not_eq_false', decide_eq_true_eq] at h
    rw [← ih, h]
    congr 1
    omega
/-- every bearing lies in the run of a start -/
theorem back_start {c : Circ} (hne : sts c 360 ≠ []) {d : Int} (h0 : 0 ≤ d) (h1 : d < 360) : ∃ s, 0 ≤ s ∧ s < 360 ∧ stB c s = true ∧ c s = c d ∧ (d - s) % 360 < arcV s (endC c s) := by
  obtain ⟨s0, m, hsm⟩ := List.exists_cons_of_ne_nil hne
  have hs0 := sts_lt c 360 s0 (by rw [hsm]; simp)
  have ht0 := sts_st c 360 s0 (by rw [hsm]; simp)
  obtain ⟨k, k1, k2, k3⟩ := first_bad ((d - s0) % 360).toNat (fun j => !stB c ((d - j) % 360)) (by
    show (!stB c ((d - ((((d - s0) % 360).toNat : Nat) : Int)) % 360)) = false
    rw [show (d - ((((d - s0) % 360).toNat : Nat) : Int)) % 360 = s0 by omega, ht0]; rfl)
  have hkst : stB c ((d - k) % 360) = true := by simpa using k2
  have hb := back_const (d := d) k (fun j hj => by have := k3 j hj; simpa using this)
  have hk360 : k < 360 := by omega
  refine ⟨(d - k) % 360, by omega, by omega, hkst, by rw [hb k (Nat.le_refl _), show d % 360 = d by omega], ?_⟩
  obtain ⟨a, a1, a2, a3, a5, a4⟩ := run_of (c := c) (d := (d - k) % 360) (by omega) (by omega) hkst
  rw [arc_run (by omega) (by omega) a1 a2 a4, show (d - (d - (k : Int)) % 360) % 360 = k by omega]
  -- the run is longer than k: its end has another color
  by_cases hlt : (k : Int) < a
  · exact hlt
  · exfalso
    apply a5
    have h1 := hb (k - a) (by omega)
    rw [show ((d - (k : Int)) % 360 + (a : Int)) % 360 = (d - ((k - a : Nat) : Int)) % 360 by omega, h1, hb k (Nat.le_refl _)]

/-! ### the simple list -/
structure SimpOk (c : Circ) (dk : Bool) (L : List SectorD) : Prop where
  rng : ∀ i, i < L.length → (0 ≤ fA L i ∧ fA L i ≤ 359) ∧ (0 ≤ tA L i ∧ tA L i ≤ 359)
  up : ∀ i j, i < j → j < L.length → fA L i < fA L j
  col : ∀ i, i < L.length → cA L i = c (fA L i) ∧ isD c (fA L i) = dk
  one : ∀ i j, i < j → j < L.length → ∀ d : Int, 0 ≤ d → d < 360 → hasI L i d = true → hasI L j d = false
  has : ∀ i, i < L.length → ∀ d : Int, 0 ≤ d → d < 360 → hasI L i d = true → c d = cA L i
  all : ∀ d : Int, 0 ≤ d → d < 360 → isD c d = dk → ∃ i, i < L.length ∧ hasI L i d = true
theorem simp_const {c : Circ} (h : sts c 360 = []) {d : Int} (h0 : 0 ≤ d) (h1 : d < 360) : c d = c 0 :=
  run_eq c (a := 0) (b := 360) (by omega) (by omega) (fun x hx0 hx1 => by
    cases hs : stB c x with
    | false => rfl
    | true => have := sts_mem c 360 x (by omega) hx1 hs; rw [h] at this; cases this) d.toNat d h0 h1 (by omega)
theorem simpF_ok (c : Circ) (dk : Bool) : SimpOk c dk (simpF c dk) := by
  by_cases hs : sts c 360 = []
  · have hP : simpP c dk 360 = [] := by rw [simpP_filter, hs]; rfl
    by_cases hd : isD c 0 = dk
    · have hL : simpF c dk = [⟨0, 0, c 0⟩] := by rw [simpF, if_pos ⟨hP, hd, hs⟩]
      rw [hL]
      have z : ∀ i, i < [(⟨0, 0, c 0⟩ : SectorD)].length → i = 0 := fun i hi => by simp at hi; omega
      refine ⟨fun i hi => ?_, fun i j h1 h2 => ?_, fun i hi => ?_, fun i j h1 h2 => ?_, fun i hi d h0 h1 _ => ?_, fun d h0 h1 _ => ⟨0, by simp, ?_⟩⟩
      · have := z i hi; subst this; simp [fA, tA]
      · have := z j h2; omega
      · have := z i hi; subst this; exact ⟨rfl, hd⟩
      · have := z j h2; omega
      · have := z i hi; subst this; rw [simp_const hs h0 h1]; rfl
      · have e : aA [(⟨0, 0, c 0⟩ : SectorD)] 0 = 360 := by simp [aA, arcV, fA, tA]
        have e2 : fA [(⟨0, 0, c 0⟩ : SectorD)] 0 = 0 := rfl
        simp only [hasI, decide_eq_true_eq]
        rw [e, e2]; omega
    · have hL : simpF c dk = [] := by rw [simpF, if_neg (fun k => hd k.2.1), hP]
      rw [hL]
      refine ⟨fun i hi => by simp at hi, fun i j h1 h2 => by simp at h2, fun i hi => by simp at hi, fun i j h1 h2 => by simp at h2, fun i hi => by simp at hi, fun d h0 h1 h2 => ?_⟩
      have : isD c d = isD c 0 := by unfold isD; rw [simp_const hs h0 h1]
      rw [this] at h2; exact absurd h2 hd
  · obtain ⟨ds, hds⟩ : ∃ ds, ds = (sts c 360).filter fun d => isD c d == dk := ⟨_, rfl⟩
    have hL : simpF c dk = ds.map fun d => ⟨d, endC c d, c d⟩ := by rw [simpF, if_neg (fun k => hs k.2.2), simpP_filter, hds]
    have hmem : ∀ d, d ∈ ds → (0 ≤ d ∧ d < 360) ∧ stB c d = true ∧ isD c d = dk := fun d hd => by
      rw [hds, List.mem_filter] at hd
      have h1 := sts_lt c 360 d hd.1
      exact ⟨⟨h1.1, by omega⟩, sts_st c 360 d hd.1, by simpa using hd.2⟩
    have hpw : ds.Pairwise (· < ·) := by rw [hds]; exact (sts_pair c 360).filter _
    rw [hL]
    have hf : ∀ i (h : i < ds.length), fA (ds.map fun d => (⟨d, endC c d, c d⟩ : SectorD)) i = ds[i] ∧ tA (ds.map fun d => (⟨d, endC c d, c d⟩ : SectorD)) i = endC c ds[i] ∧ cA (ds.map fun d => (⟨d, endC c d, c d⟩ : SectorD)) i = c ds[i] := fun i h => by
      simp [fA, tA, cA, h]
    have hh : ∀ i (h : i < ds.length) (d : Int), hasI (ds.map fun d => (⟨d, endC c d, c d⟩ : SectorD)) i d = decide ((d - ds[i]) % 360 < arcV ds[i] (endC c ds[i])) := fun i h d => by
      obtain ⟨e1, e2, -⟩ := hf i h
      rw [hasI, aA, e1, e2]
    have hlt : ∀ i j (h1 : i < j) (h2 : j < ds.length), ds[i] < ds[j] := fun i j h1 h2 => List.pairwise_iff_getElem.1 hpw i j (by omega) h2 h1
    refine ⟨fun i hi => ?_, fun i j h1 h2 => ?_, fun i hi => ?_, fun i j h1 h2 d d0 d1 hd => ?_, fun i hi d d0 d1 hd => ?_, fun d d0 d1 hd => ?_⟩
    · rw [List.length_map] at hi
      obtain ⟨e1, e2, -⟩ := hf i hi
      have m := hmem _ (List.getElem_mem hi)
      rw [e1, e2]
      refine ⟨⟨m.1.1, by omega⟩, ?_⟩
      unfold endC; omega
    · rw [List.length_map] at h2
      rw [(hf i (by omega)).1, (hf j h2).1]
      exact hlt i j h1 h2
    · rw [List.length_map] at hi
      obtain ⟨e1, -, e3⟩ := hf i hi
      rw [e1, e3]
      exact ⟨rfl, (hmem _ (List.getElem_mem hi)).2.2⟩
    · rw [List.length_map] at h2
      rw [hh i (by omega)] at hd
      rw [hh j h2]
      have m1 := hmem _ (List.getElem_mem (show i < ds.length by omega))
      have m2 := hmem _ (List.getElem_mem h2)
      have := hlt i j h1 h2
      simp only [decide_eq_true_eq] at hd
      simp only [decide_eq_false_iff_not]
      exact runs_one m1.1.1 m1.1.2 m1.2.1 m2.1.1 m2.1.2 m2.2.1 (by omega) hd
    · rw [List.length_map] at hi
      rw [hh i hi] at hd
      rw [(hf i hi).2.2]
      have m1 := hmem _ (List.getElem_mem hi)
      simp only [decide_eq_true_eq] at hd
      obtain ⟨a, a1, a2, a3, a5, a4⟩ := run_of m1.1.1 m1.1.2 m1.2.1
      rw [arc_run m1.1.1 m1.1.2 a1 a2 a4] at hd
      have := a3 ((d - ds[i]) % 360).toNat (by omega)
      rw [show (ds[i] + ((((d - ds[i]) % 360).toNat : Nat) : Int)) % 360 = d by omega] at this
      exact this
    · obtain ⟨s, s0, s1, s2, s3, s4⟩ := back_start hs d0 d1
      have hm : s ∈ ds := by
        rw [hds, List.mem_filter]
        refine ⟨sts_mem c 360 s s0 s1 s2, ?_⟩
        have : isD c s = isD c d := by unfold isD; rw [s3]
        rw [this, hd]; simp
      obtain ⟨i, hi, he⟩ := List.getElem_of_mem hm
      refine ⟨i, by rw [List.length_map]; exact hi, ?_⟩
      rw [hh i hi, he]
      simpa using s4
theorem isD_false {c : Circ} {d : Int} : isD c d = false ↔ c d ≠ emp := by unfold isD; simp
theorem colB_emp : colB emp = false := by decide +kernel
theorem simp_sec {c : Circ} {L : List SectorD} (h : SimpOk c false L) (hl : L.length ≤ 12) (hc : ∀ d : Int, 0 ≤ d → d < 360 → isD c d = false → colB (c d) = true) : secB L = true := by
  simp only [secB, Bool.and_eq_true, Bool.or_eq_true, decide_eq_true_eq, allB_iff]
  refine ⟨by omega, fun i hi => ?_, ?_⟩
  · have r := h.rng i hi
    have k := h.col i hi
    simp only [stepS, Bool.and_eq_true, Bool.or_eq_true, decide_eq_true_eq]
    refine ⟨?_, ?_⟩
    · rw [oA_get hi]
      rw [fA_get hi, tA_get hi] at r
      have hcol := hc (fA L i) (by rw [fA_get hi]; omega) (by rw [fA_get hi]; omega) k.2
      rw [← k.1, cA_get hi] at hcol
      simp only [sectB, Bool.and_eq_true]
      exact ⟨inB_of r.1.1 r.1.2, inB_of r.2.1 r.2.2, hcol⟩
    · by_cases e : i = 0
      · exact .inl e
      · exact .inr (h.up (i - 1) i (by omega) hi)
  · by_cases hn : L.length ≤ 1
    · exact .inl hn
    · refine .inr fun i hi => ?_
      have hj : (i + 1) % L.length < L.length := Nat.mod_lt _ (by omega)
      obtain ⟨j, hjj⟩ : ∃ j, j = (i + 1) % L.length := ⟨_, rfl⟩
      rw [← hjj] at hj
      have hne : j ≠ i := by
        intro e
        by_cases hl2 : i + 1 < L.length
        · rw [Nat.mod_eq_of_lt hl2] at hjj; omega
        · rw [show i + 1 = L.length by omega, Nat.mod_self] at hjj; omega
      have r := h.rng i hi
      have q := h.rng j hj
      have hself : hasI L j (fA L j) = true := by
        simp only [hasI, decide_eq_true_eq]
        have := arcV_bd (fA L j) (tA L j)
        unfold aA; omega
      have hno : hasI L i (fA L j) = false := by
        cases hh : hasI L i (fA L j) with
        | false => rfl
        | true =>
          by_cases hij : i < j
          · have := h.one i j hij hj (fA L j) (by omega) (by omega) hh
            rw [hself] at this; cases this
          · have := h.one j i (by omega) hi (fA L j) (by omega) (by omega) hself
            rw [hh] at this; cases this
      simp only [hasI, decide_eq_false_iff_not] at hno
      simp only [gapS, decide_eq_true_eq]
      rw [← hjj]
      omega
theorem simp_circ {c : Circ} {L : List SectorD} (h : SimpOk c false L) (hs : secB L = true) {d : Int} (h0 : 0 ≤ d) (h1 : d < 360) : circ L L.length d = c d := by
  by_cases hd : isD c d = false
  · obtain ⟨i, hi, hh⟩ := h.all d h0 h1 hd
    rw [circ_hit hs h0 h1 hh L.length (Nat.le_refl _) hi, h.has i hi d h0 h1 hh]
  · rw [circ_none L.length fun i hi => by
      cases hh : hasI L i d with
      | false => rfl
      | true =>
        exfalso; apply hd
        have e1 := h.has i hi d h0 h1 hh
        have e2 := h.col i hi
        have : isD c d = isD c (fA L i) := by unfold isD; rw [e1, e2.1]
        rw [this]; exact e2.2]
    have : isD c d = true := by simpa using hd
    simp only [isD, decide_eq_true_eq] at this
    exact this.symm
theorem simp_tot {c : Circ} {dk : Bool} {L : List SectorD} (h : SimpOk c dk L) : totA (aA L) L.length = cntB (fun d => isD c d == dk) 360 := by
  rw [tot_cnt L.length (Nat.le_refl _) h.one fun i hi => (h.rng i hi).1]
  refine cntB_congr 360 fun d h0 h1 => ?_
  by_cases hd : isD c d = dk
  · obtain ⟨i, hi, hh⟩ := h.all d h0 (by omega) hd
    rw [(anyI_iff L d L.length).2 ⟨i, hi, hh⟩, hd]; simp
  · have e : (isD c d == dk) = false := by simpa using hd
    rw [e]
    cases ha : anyI L L.length d with
    | false => rfl
    | true =>
      obtain ⟨i, hi, hh⟩ := (anyI_iff L d L.length).1 ha
      exfalso; apply hd
      have e1 := h.has i hi d h0 (by omega) hh
      have e2 := h.col i hi
      have : isD c d = isD c (fA L i) := by unfold isD; rw [e1, e2.1]
      rw [this]; exact e2.2
theorem sec_col {xs : List SectorD} (h : secB xs = true) {i : Nat} (hi : i < xs.length) : colB (cA xs i) = true := by
  obtain ⟨-, -, hs⟩ := secB_all h
  have := hs i hi
  simp only [stepS, Bool.and_eq_true] at this
  have h2 := this.1
  rw [oA_get hi] at h2
  simp only [sectB, Bool.and_eq_true] at h2
  rw [cA_get hi]; exact h2.2.2
theorem sec_at {xs : List SectorD} (h : secB xs = true) {d : Int} (h0 : 0 ≤ d) (h1 : d < 360) : (∃ i, i < xs.length ∧ hasI xs i d = true ∧ circ xs xs.length d = cA xs i) ∨ ((∀ i, i < xs.length → hasI xs i d = false) ∧ circ xs xs.length d = emp) := by
  cases ha : anyI xs xs.length d with
  | true =>
    obtain ⟨i, hi, hh⟩ := (anyI_iff xs d xs.length).1 ha
    exact .inl ⟨i, hi, hh, circ_hit h h0 h1 hh xs.length (Nat.le_refl _) hi⟩
  | false =>
    have hno : ∀ i, i < xs.length → hasI xs i d = false := fun i hi => by
      cases hh : hasI xs i d with
      | false => rfl
      | true => rw [(anyI_iff xs d xs.length).2 ⟨i, hi, hh⟩] at ha; cases ha
    exact .inr ⟨hno, circ_none _ hno⟩
theorem sec_circ_col {xs : List SectorD} (h : secB xs = true) {d : Int} (h0 : 0 ≤ d) (h1 : d < 360) (hd : circ xs xs.length d ≠ emp) : colB (circ xs xs.length d) = true := by
  rcases sec_at h h0 h1 with ⟨i, hi, hh, e⟩ | ⟨hn, e⟩
  · rw [e]; exact sec_col h hi
  · exact absurd e hd
theorem sec_tot {xs : List SectorD} (h : secB xs = true) : totA (aA xs) xs.length = cntB (fun d => !isD (circ xs xs.length) d) 360 := by
  obtain ⟨-, hb, -⟩ := secB_all h
  rw [tot_cnt xs.length (Nat.le_refl _) (fun i j h1 h2 d h3 h4 => has_one h h1 h2 h3 h4) fun i hi => by have := inB_true (hb i hi).1; omega]
  refine cntB_congr 360 fun d h0 h1 => ?_
  rcases sec_at h h0 (show d < 360 by omega) with ⟨i, hi, hh, e⟩ | ⟨hn, e⟩
  · rw [(anyI_iff xs d xs.length).2 ⟨i, hi, hh⟩]
    have : isD (circ xs xs.length) d = false := isD_false.2 fun k => by
      have := sec_col h hi; rw [← e, k, colB_emp] at this; cases this
    rw [this]; rfl
  · have : isD (circ xs xs.length) d = true := by unfold isD; simpa using e
    rw [this]
    cases ha : anyI xs xs.length d with
    | false => rfl
    | true =>
      obtain ⟨i, hi, hh⟩ := (anyI_iff xs d xs.length).1 ha
      rw [hn i hi] at hh; cases hh
theorem nodup_sub : ∀ (l m : List Int), l.Pairwise (· < ·) → (∀ x ∈ l, x ∈ m) → l.length ≤ m.length
  | [], m, _, _ => Nat.zero_le _
  | a :: l, m, hp, hs => by
    rw [List.pairwise_cons] at hp
    have ha := hs a (List.mem_cons_self ..)
    have ih := nodup_sub l (m.erase a) hp.2 fun x hx => by
      have hlt := hp.1 x hx
      exact (List.mem_erase_of_ne (by omega)).2 (hs x (List.mem_cons_of_mem _ hx))
    rw [List.length_erase_of_mem ha] at ih
    have : 0 < m.length := List.length_pos_of_mem ha
    rw [List.length_cons]; omega
/-- no more parts than places at which one may begin -/
theorem simp_len {c : Circ} {dk : Bool} (M : List Int) (hM : ∀ d : Int, 0 ≤ d → d < 360 → stB c d = true → isD c d = dk → d ∈ M) (h1 : isD c 0 = dk → 1 ≤ M.length) : (simpF c dk).length ≤ M.length := by
  by_cases hs : sts c 360 = [] ∧ isD c 0 = dk
  · have hP : simpP c dk 360 = [] := by rw [simpP_filter, hs.1]; rfl
    rw [simpF, if_pos ⟨hP, hs.2, hs.1⟩]
    exact h1 hs.2
  · rw [simpF, if_neg (fun k => hs ⟨k.2.2, k.2.1⟩), simpP_filter, List.length_map]
    refine nodup_sub _ _ ((sts_pair c 360).filter _) fun x hx => ?_
    rw [List.mem_filter] at hx
    have := sts_lt c 360 x hx.1
    exact hM x this.1 (by omega) (sts_st c 360 x hx.1) (by simpa using hx.2)
/-- a list's circle, turned -/
theorem turn_len {xs : List SectorD} (h : secB xs = true) {c : Circ} {a : Int} (a0 : 0 ≤ a) (a1 : a < 360) (hc : ∀ d : Int, 0 ≤ d → d < 360 → c d = circ xs xs.length ((d - a) % 360)) : (simpF c false).length ≤ xs.length := by
  have h2 := simp_len (c := c) (dk := false) ((List.range xs.length).map fun j => (fA xs j + a) % 360) (fun d d0 d1 hs hd => ?_) (fun hd => ?_)
  · rw [List.length_map, List.length_range] at h2; exact h2
  · have hb := (secB_all h).2.1
    have hx := hc d d0 d1
    have hy := hc ((d + 359) % 360) (by omega) (by omega)
    have hne := isD_false.1 hd
    rcases sec_at h (d := (d - a) % 360) (by omega) (by omega) with ⟨i, hi, hh, e⟩ | ⟨hn, e⟩
    · have b := inB_true (hb i hi).1
      rw [List.mem_map]
      refine ⟨i, by simpa using hi, ?_⟩
      by_cases hf : (d - a) % 360 = fA xs i
      · omega
      · exfalso
        have hh2 : hasI xs i (((d + 359) % 360 - a) % 360) = true := by
          simp only [hasI, decide_eq_true_eq] at hh ⊢
          omega
        rw [circ_hit h (by omega) (by omega) hh2 xs.length (Nat.le_refl _) hi] at hy
        exact st_ne hs (by rw [hx, e, hy])
    · rw [hx, e] at hne; exact absurd rfl hne
  · rw [List.length_map, List.length_range]
    have hne := isD_false.1 hd
    rw [hc 0 (by omega) (by omega)] at hne
    rcases sec_at h (d := (0 - a) % 360) (by omega) (by omega) with ⟨i, hi, hh, e⟩ | ⟨hn, e⟩
    · omega
    · exact absurd e hne
/-! ### the parts of the statement -/
theorem lit_cnt {xs : List SectorD} (h : secB xs = true) : litV xs = cntB (fun d => !isD (circ xs xs.length) d) 360 := by rw [litV, if_pos h, sec_tot h]
theorem sec_paint {xs : List SectorD} {f t : Int} {c : ByteArray} (h : paC xs f t c = 0) : secB xs = true ∧ (0 ≤ f ∧ f ≤ 359) ∧ (0 ≤ t ∧ t ≤ 359) ∧ secB (paL xs f t c) = true ∧ ∀ d : Int, 0 ≤ d → d < 360 → colV (paL xs f t c) d = if (d - f) % 360 < arcV f t then c else colV xs d := by
  unfold paC at h
  split at h
  · rename_i hs
    split at h
    · rename_i hp
      split at h
      · rename_i hl
        have hL : paL xs f t c = paL0 xs f t c := by rw [paL, hs, hp, hl]; rfl
        have hl' : (paL0 xs f t c).length ≤ 12 := by simp only [decide_eq_true_eq] at hl; omega
        have ok := simpF_ok (paF (circ xs xs.length) f t c) false
        simp only [parB, Bool.and_eq_true, Bool.or_eq_true] at hp
        have hsec : secB (paL0 xs f t c) = true := simp_sec ok hl' fun d d0 d1 hd => by
          have hne := isD_false.1 hd
          unfold paF at hne ⊢
          split
          · rename_i hin
            rw [if_pos hin] at hne
            rcases hp.2 with he | hc
            · exact absurd (emp_iff.2 (by simpa using he)) hne
            · exact hc
          · rename_i hin
            rw [if_neg hin] at hne
            exact sec_circ_col hs d0 d1 hne
        refine ⟨hs, inB_true hp.1.1, inB_true hp.1.2, by rw [hL]; exact hsec, fun d d0 d1 => ?_⟩
        rw [hL, colV, if_pos hsec, colV, if_pos hs, show d % 360 = d by omega]
        exact simp_circ ok hsec d0 d1
      · omega
    · omega
  · omega
theorem sec_dark {xs : List SectorD} (h : secB xs = true) : litV xs + totA (aA (sdL xs true)) (sdL xs true).length = 360 ∧ ∀ i, i < (sdL xs true).length → cA (sdL xs true) i = emp ∧ colV xs (fA (sdL xs true) i) = emp ∧ (0 ≤ fA (sdL xs true) i ∧ fA (sdL xs true) i ≤ 359) ∧ (0 ≤ tA (sdL xs true) i ∧ tA (sdL xs true) i ≤ 359) := by
  have hL : sdL xs true = simpF (circ xs xs.length) true := by rw [sdL, if_pos h]
  rw [hL]
  have ok := simpF_ok (circ xs xs.length) true
  refine ⟨?_, fun i hi => ?_⟩
  · rw [lit_cnt h, simp_tot ok]
    have := cntB_not (fun d => isD (circ xs xs.length) d) 360
    have e : cntB (fun d => isD (circ xs xs.length) d == true) 360 = cntB (fun d => isD (circ xs xs.length) d) 360 := cntB_congr 360 fun d _ _ => by simp
    rw [e]
    have e2 : ((360 : Nat) : Int) = 360 := rfl
    omega
  · have r := ok.rng i hi
    obtain ⟨k1, k2⟩ := ok.col i hi
    have k3 : circ xs xs.length (fA (simpF (circ xs xs.length) true) i) = emp := by simpa [isD] using k2
    refine ⟨by rw [k1, k3], ?_, r.1, r.2⟩
    rw [colV, if_pos h, show (fA (simpF (circ xs xs.length) true) i) % 360 = fA (simpF (circ xs xs.length) true) i by omega, k3]
theorem sec_turned {xs : List SectorD} (h : secB xs = true) {c : Circ} {a : Int} (a0 : 0 ≤ a) (a1 : a < 360) (hc : ∀ d : Int, 0 ≤ d → d < 360 → c d = circ xs xs.length ((d - a) % 360)) :
    secB (simpF c false) = true ∧ (simpF c false).length ≤ xs.length ∧ litV (simpF c false) = litV xs ∧ ∀ d : Int, colV (simpF c false) (d + a) = colV xs d := by
  have ok := simpF_ok c false
  have hl := turn_len h a0 a1 hc
  have h12 := (secB_all h).1
  have hs : secB (simpF c false) = true := simp_sec ok (by omega) fun d d0 d1 hd => by
    have hne := isD_false.1 hd
    rw [hc d d0 d1] at hne ⊢
    exact sec_circ_col h (by omega) (by omega) hne
  refine ⟨hs, hl, ?_, fun d => ?_⟩
  · rw [lit_cnt hs, lit_cnt h, ← cntB_back (fun d => !isD (circ xs xs.length) d) a a0 a1]
    refine cntB_congr 360 fun d d0 d1 => ?_
    unfold isD
    rw [simp_circ ok hs d0 (by omega), hc d d0 (by omega)]
  · rw [colV, if_pos hs, colV, if_pos h, simp_circ ok hs (by omega) (by omega), hc _ (by omega) (by omega)]
    congr 1
    omega
theorem sec_simple {xs : List SectorD} (h : secB xs = true) : secB (sdL xs false) = true ∧ (sdL xs false).length ≤ xs.length ∧ litV (sdL xs false) = litV xs ∧ ∀ d : Int, colV (sdL xs false) d = colV xs d := by
  have hL : sdL xs false = simpF (circ xs xs.length) false := by rw [sdL, if_pos h]
  rw [hL]
  obtain ⟨h1, h2, h3, h4⟩ := sec_turned h (c := circ xs xs.length) (a := 0) (by omega) (by omega) fun d d0 d1 => by rw [show (d - 0) % 360 = d by omega]
  exact ⟨h1, h2, h3, fun d => by have := h4 d; rw [Int.add_zero] at this; exact this⟩
theorem sec_turn {xs : List SectorD} (h : secB xs = true) (n : Int) : secB (tuL xs n) = true ∧ litV (tuL xs n) = litV xs ∧ ∀ d : Int, colV (tuL xs n) (d + n) = colV xs d := by
  have hL : tuL xs n = simpF (turnP (circ xs xs.length) (n % 360) 360) false := by rw [tuL, if_pos h]
  rw [hL]
  obtain ⟨h1, h2, h3, h4⟩ := sec_turned h (c := turnP (circ xs xs.length) (n % 360) 360) (a := n % 360) (by omega) (by omega) fun d d0 d1 => by
    unfold turnP; rw [if_pos (by omega)]
  refine ⟨h1, h3, fun d => ?_⟩
  rw [← h4 d]
  unfold colV
  rw [show (d + n) % 360 = (d + n % 360) % 360 by omega]
theorem sec_text {xs : List SectorD} (h : secB xs = true) : secsRd (secsR xs).data.toList = some xs := by
  refine (secsRd_iff _ _).2 ⟨h, ?_⟩
  rw [secsR, if_pos h, bs_list]
end Go.Proofs.YtabbhlehbhadiaaGreatDoor
