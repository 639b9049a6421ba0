/- What is read is what was written: lists of numbers; points. Plain. -/
import Derived.Test.YtabbhlehbhadiaaGreatDoorReadI
import Derived.Test.YtabbhlehbhadiaaGreatDoorShipT
import Derived.Test.YtabbhlehbhadiaaGreatDoorPointT
namespace Go.Proofs.YtabbhlehbhadiaaGreatDoor
open Go.RowKit Go.Sort
set_option linter.unusedVariables false

theorem itoa_chars (n : Int) : ∀ c ∈ Lib.itoa n, c = 45 ∨ (48 ≤ c.toNat ∧ c.toNat ≤ 57) := by
  intro c hc
  unfold Lib.itoa at hc
  split at hc
  · rcases List.mem_cons.1 hc with rfl | hc
    · exact .inl rfl
    · exact .inr (dec_digits _ c hc)
  · exact .inr (dec_digits _ c hc)
theorem itoa_no {n : Int} {c : UInt8} (h : c ≠ 45) (h2 : ¬ (48 ≤ c.toNat ∧ c.toNat ≤ 57)) : c ∉ Lib.itoa n := fun e => by
  rcases itoa_chars n c e with h3 | h3
  · exact h h3
  · exact h2 h3
theorem itoa_no44 (n : Int) : (44 : UInt8) ∉ Lib.itoa n := itoa_no (by decide) (by decide)
theorem itoa_no32 (n : Int) : (32 : UInt8) ∉ Lib.itoa n := itoa_no (by decide) (by decide)
theorem itoa_dash (n : Int) : Lib.itoa n ≠ [45] := by
  have hd : ∀ u, Lib.decDigits u ≠ [] := fun u e => by
    have h1 := Lib.nDigits_pos u
    rw [← Lib.decDigits_length, e] at h1
    simp at h1
  unfold Lib.itoa
  split
  · intro e; injection e with _ e; exact hd _ e
  · intro e
    have := dec_digits n.toNat 45 (by rw [e]; simp)
    simp at this
theorem num_itoa {n : Int} (h : -1000000000000 ≤ n ∧ n ≤ 1000000000000) : numL (Lib.itoa n) = some n := (numL_iff _ _).2 ⟨rfl, by omega⟩
theorem numsL_no32 (xs : List Int) : (32 : UInt8) ∉ numsL xs := by
  intro h
  cases xs with
  | nil => simp [numsL, jn] at h
  | cons x r =>
    simp only [numsL, List.map_cons, jn, List.mem_append, List.mem_flatten, List.mem_map] at h
    rcases h with h | ⟨p, ⟨q, ⟨y, hy, rfl⟩, rfl⟩, hp⟩
    · exact itoa_no32 x h
    · rcases List.mem_cons.1 hp with hp | hp
      · exact absurd hp (by decide)
      · exact itoa_no32 y hp
theorem listL_no32 (xs : List Int) : (32 : UInt8) ∉ listL xs := by
  unfold listL; split
  · decide
  · exact numsL_no32 xs
theorem listL_ne (xs : List Int) : listL xs ≠ [] := by
  unfold listL
  split
  · simp
  · rename_i h
    cases xs with
    | nil => exact absurd rfl h
    | cons x r => simp only [numsL, List.map_cons, jn]; intro e; exact itoa_ne x (List.append_eq_nil_iff.1 e).1
theorem rdP_ne (l : List UInt8) : rdP l ≠ [] := by
  obtain ⟨p, r, h⟩ := cutAt_some 44 l
  simp [rdP, cutB, h]
theorem rd_iff (l : List UInt8) (xs : List Int) : (rdB l = true ∧ rdX l = xs) ↔ (listL xs = l ∧ fitsB xs = true) := by
  constructor
  · rintro ⟨h1, h2⟩
    cases hq : (l == [45])
    · have h3 : (decide ((rdP l).length ≤ 64) && (rdP l).all okN) = true := by rw [rdB, hq] at h1; simpa using h1
      obtain ⟨h4, h5⟩ := (Bool.and_eq_true _ _).mp h3
      have h4 : (rdP l).length ≤ 64 := of_decide_eq_true h4
      rw [(rd_ok hq h4 h5).2] at h2
      have hne : xs ≠ [] := by rw [← h2]; intro e; exact rdP_ne l (List.map_eq_nil_iff.1 e)
      have hok := List.all_eq_true.1 h5
      have hmap : xs.map Lib.itoa = cutAt 44 l := by
        rw [← h2, List.map_map]
        have e1 : (rdP l).map (Lib.itoa ∘ numS) = (rdP l).map (fun x => x.data.toList) := List.map_congr_left fun x hx => by
          have := hok x hx
          simp only [okN, Bool.and_eq_true] at this
          exact ((numL_iff _ _).1 (num_of_true this.1)).1
        rw [e1, rdP, cutB, List.map_map]
        conv => rhs; rw [← List.map_id (cutAt 44 l)]
        exact List.map_congr_left fun p _ => bs_list p
      refine ⟨?_, ?_⟩
      · rw [listL, if_neg hne, numsL, hmap, jn_cutAt]
      · simp only [fitsB, Bool.and_eq_true, decide_eq_true_eq, List.all_eq_true]
        refine ⟨by rw [← h2, List.length_map]; omega, fun x hx => ?_⟩
        rw [← h2] at hx
        obtain ⟨y, hy, rfl⟩ := List.mem_map.1 hx
        have := hok y hy
        simp only [okN, Bool.and_eq_true] at this
        exact this.2
    · rw [(rd_dash hq).2] at h2
      subst h2
      exact ⟨(beq_iff_eq.1 hq).symm, rfl⟩
  · rintro ⟨rfl, h2⟩
    by_cases h0 : xs = []
    · subst h0; exact rd_dash rfl
    · simp only [fitsB, Bool.and_eq_true, decide_eq_true_eq, List.all_eq_true] at h2
      obtain ⟨h3, h4⟩ := h2
      have hl : listL xs = numsL xs := by rw [listL, if_neg h0]
      have hcut : cutAt 44 (numsL xs) = xs.map Lib.itoa := cutAt_jn 44 _ (by simpa using h0) (fun p hp => by obtain ⟨x, _, rfl⟩ := List.mem_map.1 hp; exact itoa_no44 x)
      have hP : rdP (numsL xs) = xs.map fun x => bs (Lib.itoa x) := by rw [rdP, cutB, hcut, List.map_map]; rfl
      have hq : (numsL xs == [45]) = false := by
        rw [beq_eq_false_iff_ne]
        intro e
        have e2 : cutAt 44 (numsL xs) = [[45]] := by rw [e]; rfl
        rw [hcut] at e2
        cases xs with
        | nil => exact h0 rfl
        | cons x r => injection e2 with e2; exact itoa_dash x e2
      have hone : ∀ x ∈ xs, numS (bs (Lib.itoa x)) = x ∧ okN (bs (Lib.itoa x)) = true := fun x hx => by
        have hr := h4 x hx
        have hn := num_some (num_itoa (inB_true hr))
        refine ⟨by rw [numS, bs_list, hn.1], ?_⟩
        rw [okN, numS, bs_list, hn.1, hn.2, hr]; rfl
      have hall : (rdP (numsL xs)).all okN = true := by
        rw [hP, List.all_eq_true]
        intro y hy
        obtain ⟨x, hx, rfl⟩ := List.mem_map.1 hy
        exact (hone x hx).2
      have hr := rd_ok (l := numsL xs) hq (by rw [hP, List.length_map]; omega) hall
      rw [hl]
      refine ⟨hr.1, ?_⟩
      rw [hr.2, hP, List.map_map]
      conv => rhs; rw [← List.map_id xs]
      exact List.map_congr_left fun x hx => (hone x hx).1
/-- names hold no blank and are not empty -/
theorem name_no32 {s : ByteArray} (h : nameB s = true) : (32 : UInt8) ∉ s.data.toList ∧ s.data.toList ≠ [] := by
  simp only [nameB, Bool.and_eq_true, List.all_eq_true, ByteArray.toList_eq] at h
  obtain ⟨⟨⟨h0, _⟩, _⟩, h1⟩ := h
  refine ⟨fun e => ?_, fun e => by rw [e] at h0; simp at h0⟩
  have := h1 32 e
  revert this
  decide
end Go.Proofs.YtabbhlehbhadiaaGreatDoor
