/- Sectors read: what both sides answer. Plain. -/
import Derived.Test.YtfnfkpmkppkleaaDoorSectP
namespace Go.Proofs.YtfnfkpmkppkleaaDoor
open Go.RowKit Go.Sort
set_option linter.unusedVariables false

def secsO (f : List UInt8 → Option SectorD) : List (List UInt8) → Option (List SectorD)
  | [] => some []
  | p :: r => match f p, secsO f r with
    | some d, some l => some (d :: l)
    | _, _ => none
theorem secsO_some {f : List UInt8 → Option SectorD} (hf : ∀ p d, f p = some d → secL d = p) : ∀ {ps : List (List UInt8)} {xs : List SectorD}, secsO f ps = some xs → xs.map secL = ps
  | [], xs, h => by injection h with h; subst h; rfl
  | p :: r, xs, h => by
    simp only [secsO] at h
    split at h
    · rename_i d l h1 h2
      injection h with h
      subst h
      rw [List.map_cons, hf _ _ h1, secsO_some hf h2]
    · cases h
theorem secsO_of {f : List UInt8 → Option SectorD} : ∀ {xs : List SectorD}, (∀ x ∈ xs, f (secL x) = some x) → secsO f (xs.map secL) = some xs
  | [], _ => rfl
  | x :: r, h => by
    rw [List.map_cons, secsO, h x (by simp), secsO_of fun y hy => h y (by simp [hy])]
/-- one piece more at the end -/
theorem secsO_snoc {f : List UInt8 → Option SectorD} (p : List UInt8) : ∀ ps : List (List UInt8), secsO f (ps ++ [p]) = (match secsO f ps, f p with | some l, some d => some (l ++ [d]) | _, _ => none)
  | [] => by
    simp only [List.nil_append, secsO]
    cases f p <;> rfl
  | q :: r => by
    rw [List.cons_append, secsO, secsO_snoc p r, secsO]
    cases f q <;> cases secsO f r <;> cases f p <;> rfl
/-- a piece that is no sector spoils the whole -/
theorem secsO_bad {f : List UInt8 → Option SectorD} {p : List UInt8} (h : f p = none) : ∀ {ps : List (List UInt8)}, p ∈ ps → secsO f ps = none
  | q :: r, hm => by
    rw [secsO]
    rcases List.mem_cons.1 hm with rfl | hm
    · rw [h]
    · rw [secsO_bad h hm]; cases f q <;> rfl
theorem secsO_len {f : List UInt8 → Option SectorD} : ∀ {ps : List (List UInt8)} {xs : List SectorD}, secsO f ps = some xs → xs.length = ps.length
  | [], xs, h => by injection h with h; subst h; rfl
  | p :: r, xs, h => by
    simp only [secsO] at h
    split at h
    · rename_i d l h1 h2
      injection h with h
      subst h
      simp [secsO_len h2]
    · cases h
def secsRd (s : List UInt8) : Option (List SectorD) :=
  if s = [45] then some [] else if 12 < (cutAt 44 s).length then none else
    match secsO secP (cutAt 44 s) with
    | some xs => if secB xs then some xs else none
    | none => none
def secsRdI (s : List UInt8) : Option (List SectorD) :=
  if s = [45] then some [] else
    match secsO secQ (cutAt 44 s) with
    | some xs => if secB xs && (secsT xs == s) then some xs else none
    | none => none
theorem sec_of_secB {xs : List SectorD} (h : secB xs = true) : ∀ x ∈ xs, sectB x.fFrom x.fTo x.fColor = true := by
  simp only [secB, Bool.and_eq_true, allB_iff] at h
  intro x hx
  obtain ⟨i, hi, rfl⟩ := List.mem_iff_getElem.1 hx
  have h1 := h.2.1 i hi
  simp only [stepS, Bool.and_eq_true, oA_get hi] at h1
  exact h1.1
theorem secL_two (d : SectorD) : 2 ≤ (secL d).length := by
  cases hq : Lib.itoa d.fFrom with
  | nil => exact absurd hq (itoa_ne _)
  | cons a r => rw [secL, hq]; simp; omega
theorem secs_cut {xs : List SectorD} (h0 : xs ≠ []) (h : secB xs = true) : cutAt 44 (secsL xs) = xs.map secL ∧ secsL xs ≠ [45] := by
  have hc : cutAt 44 (secsL xs) = xs.map secL := cutAt_jn 44 _ (by simpa using h0) (fun p hp => by
    obtain ⟨x, hx, rfl⟩ := List.mem_map.1 hp
    exact secL_no44 (sec_of_secB h x hx))
  refine ⟨hc, fun e => ?_⟩
  have e2 : cutAt 44 (secsL xs) = [[45]] := by rw [e]; rfl
  rw [hc] at e2
  cases xs with
  | nil => exact h0 rfl
  | cons x r =>
    injection e2 with e2
    have := secL_two x
    rw [e2] at this
    simp at this
theorem cut_ne (c : UInt8) (l : List UInt8) : cutAt c l ≠ [] := by
  obtain ⟨p, r, h⟩ := cutAt_some c l
  rw [h]; simp
theorem secs_text {f : List UInt8 → Option SectorD} (hf : ∀ p d, f p = some d → secL d = p) {s : List UInt8} {xs : List SectorD} (h : secsO f (cutAt 44 s) = some xs) : secsT xs = s := by
  have hm := secsO_some hf h
  have h0 : xs ≠ [] := fun e => by subst e; exact cut_ne 44 s hm.symm
  rw [secsT, if_neg h0, secsL, hm, jn_cutAt]
theorem secsRd_iff (s : List UInt8) (xs : List SectorD) : secsRd s = some xs ↔ (secB xs = true ∧ secsT xs = s) := by
  constructor
  · intro h
    unfold secsRd at h
    split at h
    · rename_i h1
      injection h with h
      subst h
      exact ⟨by rfl, by rw [h1]; rfl⟩
    · split at h
      · cases h
      · split at h
        · rename_i ys hy
          split at h
          · rename_i hb
            injection h with h
            subst h
            exact ⟨hb, secs_text (fun _ _ => secP_some) hy⟩
          · cases h
        · cases h
  · rintro ⟨h1, h2⟩
    by_cases h0 : xs = []
    · subst h0
      rw [secsRd, if_pos (show s = [45] from h2.symm)]
    · rw [secsT, if_neg h0] at h2
      obtain ⟨hc, hn⟩ := secs_cut h0 h1
      have hl := (secB_in h1).1
      rw [← h2, secsRd, if_neg hn, hc, if_neg (by rw [List.length_map]; omega), secsO_of fun x hx => (sec_back (sec_of_secB h1 x hx)).1]
      simp [h1]
theorem secsRdI_eq (s : List UInt8) : secsRdI s = secsRd s := by
  have key : ∀ xs, secsRdI s = some xs ↔ secsRd s = some xs := by
    intro xs
    rw [secsRd_iff]
    constructor
    · intro h
      unfold secsRdI at h
      split at h
      · rename_i h1
        injection h with h
        subst h
        exact ⟨by rfl, by rw [h1]; rfl⟩
      · split at h
        · rename_i ys hy
          split at h
          · rename_i hb
            injection h with h
            subst h
            simp only [Bool.and_eq_true, beq_iff_eq] at hb
            exact hb
          · cases h
        · cases h
    · rintro ⟨h1, h2⟩
      by_cases h0 : xs = []
      · subst h0
        rw [secsRdI, if_pos (show s = [45] from h2.symm)]
      · have h2' := h2
        rw [secsT, if_neg h0] at h2'
        obtain ⟨hc, hn⟩ := secs_cut h0 h1
        rw [secsRdI, ← h2', if_neg hn, hc, secsO_of fun x hx => (sec_back (sec_of_secB h1 x hx)).2]
        simp [h1, secsT, h0]
  cases h : secsRd s with
  | some d => exact (key d).2 h
  | none =>
    cases h2 : secsRdI s with
    | none => rfl
    | some d => rw [(key d).1 h2] at h; cases h
end Go.Proofs.YtfnfkpmkppkleaaDoor
