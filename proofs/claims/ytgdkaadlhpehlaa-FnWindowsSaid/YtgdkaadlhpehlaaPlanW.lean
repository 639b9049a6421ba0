/- What the windows tell: their order, the times in them, the first of them; plain. -/
import Derived.Test.YtgdkaadlhpehlaaWin
namespace Go.Proofs.Ytgdkaadlhpehlaa
open Go.RowKit Go.Sort
set_option maxRecDepth 100000

theorem snoc_get {α : Type} (xs : List α) (y : α) (i : Nat) (h : i < (xs ++ [y]).length) : (∃ h' : i < xs.length, (xs ++ [y])[i] = xs[i]) ∨ (i = xs.length ∧ (xs ++ [y])[i] = y) := by
  by_cases hlt : i < xs.length
  · exact .inl ⟨hlt, List.getElem_append_left hlt⟩
  · have e : i = xs.length := by simp at h; omega
    exact .inr ⟨e, by subst e; simp⟩
structure WinOk (p : Int → Bool) (t : Int) (n : Nat) (ps : List (Int × Int)) : Prop where
  rng : ∀ i, (h : i < ps.length) → t ≤ ps[i].1 ∧ ps[i].1 ≤ ps[i].2 ∧ ps[i].2 < t + n
  gap : ∀ i j, (hi : i < ps.length) → (hj : j < ps.length) → i < j → ps[i].2 + 1 < ps[j].1
  ins : ∀ x, t ≤ x → x < t + n → (p x = true ↔ ∃ i, ∃ h : i < ps.length, ps[i].1 ≤ x ∧ x ≤ ps[i].2)
theorem WinOk.nil (p : Int → Bool) (t : Int) : WinOk p t 0 [] := ⟨fun i h => by simp at h, fun i j h => by simp at h, fun x h h' => by omega⟩
theorem WinOk.no {p : Int → Bool} {t : Int} {n : Nat} {ps : List (Int × Int)} (h : WinOk p t n ps) (hp : p (t + n) = false) : WinOk p t (n + 1) ps := by
  refine ⟨fun i hi => by have := h.rng i hi; omega, h.gap, fun x h1 h2 => ?_⟩
  by_cases e : x = t + n
  · subst e
    rw [hp]
    refine ⟨(fun k => by cases k), fun ⟨i, hi, k1, k2⟩ => by have := h.rng i hi; omega⟩
  · exact h.ins x h1 (by omega)
theorem WinOk.new {p : Int → Bool} {t : Int} {n : Nat} {ps : List (Int × Int)} (h : WinOk p t n ps) (hp : p (t + n) = true) (hl : ∀ q, ps[ps.length - 1]? = some q → q.2 ≠ t + n - 1) : WinOk p t (n + 1) (ps ++ [(t + n, t + n)]) := by
  refine ⟨fun i hi => ?_, fun i j hi hj hij => ?_, fun x h1 h2 => ?_⟩
  · rcases snoc_get _ _ i hi with ⟨k, e⟩ | ⟨k, e⟩ <;> rw [e]
    · have := h.rng i k; omega
    · simp only; omega
  · rcases snoc_get _ _ i hi with ⟨k, e⟩ | ⟨k, e⟩ <;> rcases snoc_get _ _ j hj with ⟨k', e'⟩ | ⟨k', e'⟩ <;> rw [e, e']
    · exact h.gap i j k k' hij
    · simp only
      have hr := h.rng i k
      have hq := hl ps[ps.length - 1] (List.getElem?_eq_getElem (by omega))
      by_cases e3 : i = ps.length - 1
      · subst e3; omega
      · have := h.gap i (ps.length - 1) k (by omega) (by omega)
        have := h.rng (ps.length - 1) (by omega)
        omega
    · omega
    · omega
  · by_cases e : x = t + n
    · subst e
      exact ⟨fun _ => ⟨ps.length, by simp, by simp⟩, fun _ => hp⟩
    · rw [h.ins x h1 (by omega)]
      constructor
      · rintro ⟨i, hi, k1, k2⟩
        exact ⟨i, by simp; omega, by rw [List.getElem_append_left hi]; exact ⟨k1, k2⟩⟩
      · rintro ⟨i, hi, k1, k2⟩
        rcases snoc_get _ _ i hi with ⟨k, e2⟩ | ⟨k, e2⟩ <;> rw [e2] at k1 k2
        · exact ⟨i, k, k1, k2⟩
        · simp only at k1 k2; omega
theorem WinOk.ext {p : Int → Bool} {t : Int} {n : Nat} {qs : List (Int × Int)} {f : Int} (h : WinOk p t n (qs ++ [(f, t + n - 1)])) (hp : p (t + n) = true) : WinOk p t (n + 1) (qs ++ [(f, t + n)]) := by
  have hlast := h.rng qs.length (by simp)
  simp only [List.getElem_concat_length] at hlast
  refine ⟨fun i hi => ?_, fun i j hi hj hij => ?_, fun x h1 h2 => ?_⟩
  · rcases snoc_get _ _ i hi with ⟨k, e⟩ | ⟨k, e⟩ <;> rw [e]
    · have := h.rng i (by simp; omega)
      rw [List.getElem_append_left k] at this; omega
    · simp only; omega
  · rcases snoc_get _ _ i hi with ⟨k, e⟩ | ⟨k, e⟩ <;> rcases snoc_get _ _ j hj with ⟨k', e'⟩ | ⟨k', e'⟩ <;> rw [e, e']
    · have := h.gap i j (by simp; omega) (by simp; omega) hij
      rw [List.getElem_append_left k, List.getElem_append_left k'] at this; exact this
    · have := h.gap i qs.length (by simp; omega) (by simp) k
      rw [List.getElem_append_left k, List.getElem_concat_length rfl] at this; exact this
    · omega
    · omega
  · by_cases e : x = t + n
    · subst e
      exact ⟨fun _ => ⟨qs.length, by simp, by simp; omega⟩, fun _ => hp⟩
    · rw [h.ins x h1 (by omega)]
      constructor
      · rintro ⟨i, hi, k1, k2⟩
        refine ⟨i, by simpa using hi, ?_⟩
        rcases snoc_get _ _ i hi with ⟨k, e2⟩ | ⟨k, e2⟩ <;> rw [e2] at k1 k2
        · rw [List.getElem_append_left k]; exact ⟨k1, k2⟩
        · subst k
          rw [List.getElem_concat_length rfl]; simp only at k1 k2 ⊢; omega
      · rintro ⟨i, hi, k1, k2⟩
        refine ⟨i, by simpa using hi, ?_⟩
        rcases snoc_get _ _ i hi with ⟨k, e2⟩ | ⟨k, e2⟩ <;> rw [e2] at k1 k2
        · rw [List.getElem_append_left k]; exact ⟨k1, k2⟩
        · subst k
          rw [List.getElem_concat_length rfl]; simp only at k1 k2 ⊢; omega
theorem winF_ok (p : Int → Bool) (t : Int) : ∀ n : Nat, WinOk p t n (winF p t n)
  | 0 => WinOk.nil p t
  | n + 1 => by
    have ih := winF_ok p t n
    rw [winF]
    generalize winF p t n = ps at ih ⊢
    cases hp : p (t + n) with
    | false => rw [winS_no]; exact ih.no hp
    | true =>
      rcases List.eq_nil_or_concat ps with rfl | ⟨qs, q, rfl⟩
      · rw [winS_new (by simp)]; exact ih.new hp (by simp)
      · by_cases e : q.2 = t + n - 1
        · obtain ⟨f, e2⟩ := q
          simp only at e
          subst e
          rw [List.concat_eq_append] at ih ⊢
          rw [winS_grow]
          exact ih.ext hp
        · have hl : ∀ q', (qs.concat q)[(qs.concat q).length - 1]? = some q' → q'.2 ≠ t + n - 1 := fun q' hq' => by
            simp at hq'
            rw [← hq']; exact e
          rw [winS_new hl]
          exact ih.new hp hl
/-- inside one of the first of them -/
def insF (ps : List (Int × Int)) (x : Int) : Nat → Bool
  | 0 => false
  | n + 1 => insF ps x n || (match ps[n]? with | some q => decide (q.1 ≤ x ∧ x ≤ q.2) | none => false)
theorem insF_succ {ps : List (Int × Int)} {x : Int} {n : Nat} (h : n < ps.length) : insF ps x (n + 1) = (insF ps x n || decide (ps[n].1 ≤ x ∧ x ≤ ps[n].2)) := by simp [insF, h]
theorem insF_iff {ps : List (Int × Int)} {x : Int} : ∀ n, n ≤ ps.length → (insF ps x n = true ↔ ∃ i, ∃ h : i < ps.length, i < n ∧ ps[i].1 ≤ x ∧ x ≤ ps[i].2)
  | 0, _ => by simp [insF]
  | n + 1, hn => by
    rw [insF_succ (show n < ps.length by omega), Bool.or_eq_true, insF_iff n (by omega), decide_eq_true_eq]
    constructor
    · rintro (⟨i, h, h1, h2⟩ | h)
      · exact ⟨i, h, by omega, h2⟩
      · exact ⟨n, by omega, by omega, h⟩
    · rintro ⟨i, h, h1, h2⟩
      by_cases e : i = n
      · subst e; exact .inr h2
      · exact .inl ⟨i, h, by omega, h2⟩
theorem insF_all {p : Int → Bool} {t : Int} {n : Nat} {ps : List (Int × Int)} (h : WinOk p t n ps) {x : Int} (h1 : t ≤ x) (h2 : x < t + n) : insF ps x ps.length = p x := by
  rw [Bool.eq_iff_iff, insF_iff _ (Nat.le_refl _), h.ins x h1 h2]
  constructor
  · rintro ⟨i, h, _, h3⟩; exact ⟨i, h, h3⟩
  · rintro ⟨i, h, h3⟩; exact ⟨i, h, h, h3⟩
theorem nextF_is {p : Int → Bool} : ∀ (n : Nat) (t x : Int), t ≤ x → x < t + n → p x = true → (∀ y, t ≤ y → y < x → p y = false) → nextF p t n = some x
  | 0, t, x, h1, h2, _, _ => by omega
  | n + 1, t, x, h1, h2, h3, h4 => by
    by_cases e : t = x
    · subst e; exact nextF_t h3
    · rw [nextF_f (h4 t (by omega) (by omega))]
      exact nextF_is n (t + 1) x (by omega) (by omega) h3 fun y hy => h4 y (by omega)
theorem nextF_past {p : Int → Bool} : ∀ (n : Nat) (t x : Int) (k : Nat), nextF p t n = some x → (∀ y, t ≤ y → y < t + k → p y = false) → t + k ≤ x
  | 0, t, x, k, h, _ => by simp [nextF] at h
  | n + 1, t, x, k, h, hk => by
    by_cases e : p t = true
    · rw [nextF_t e] at h
      injection h with h
      subst h
      cases k with
      | zero => omega
      | succ k => rw [hk t (by omega) (by omega)] at e; cases e
    · rw [nextF_f (by simpa using e)] at h
      cases k with
      | zero => have := nextF_past n (t + 1) x 0 h (fun y h1 h2 => by omega); omega
      | succ k => have := nextF_past n (t + 1) x k h (fun y h1 h2 => hk y (by omega) (by omega)); omega
theorem WinOk.first {p : Int → Bool} {t : Int} {n m : Nat} {ps : List (Int × Int)} (h : WinOk p t n ps) (hm : n ≤ m) (hp : 0 < ps.length) : nextF p t m = some (ps[0].1) := by
  have h0 := h.rng 0 hp
  refine nextF_is m t _ h0.1 (by omega) ?_ fun y h1 h2 => ?_
  · rw [h.ins _ h0.1 (by omega)]; exact ⟨0, hp, by omega, by omega⟩
  · cases hy : p y
    · rfl
    · rw [h.ins y h1 (by omega)] at hy
      obtain ⟨i, hi, k1, k2⟩ := hy
      by_cases e : i = 0
      · subst e; omega
      · have := h.gap 0 i hp hi (by omega); omega
theorem WinOk.none {p : Int → Bool} {t : Int} {n : Nat} {ps : List (Int × Int)} (h : WinOk p t n ps) (hp : ps.length = 0) : ∀ y, t ≤ y → y < t + n → p y = false := fun y h1 h2 => by
  cases hy : p y
  · rfl
  · rw [h.ins y h1 h2] at hy
    obtain ⟨i, hi, _⟩ := hy
    omega
end Go.Proofs.Ytgdkaadlhpehlaa
