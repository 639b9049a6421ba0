/- An item taken out of a list; plain. -/
import Derived.Test.YtgdkaadlhpehlaaItem
import Derived.Test.YtgdkaadlhpehlaaPush
namespace Go.Proofs.Ytgdkaadlhpehlaa
open Go.RowKit Go.Sort
set_option maxRecDepth 100000

def keptB (c : List UInt8) (d : ItemD) : Bool := !(d.fKey.toList == c)
def dropL (xs : List ItemD) (c : List UInt8) : List ItemD := xs.filter (keptB c)
theorem filter_all {α : Type} {p : α → Bool} {xs : List α} (h : ∀ x ∈ xs, p x = true) : xs.filter p = xs := List.filter_eq_self.2 h
theorem drop_hit {xs : List ItemD} {c : List UInt8} (hv : itemsB xs = true) (hh : hitB xs c = true) : lowI ItemD.fKey c xs < xs.length ∧ dropL xs c = xs.take (lowI ItemD.fKey c xs) ++ xs.drop (lowI ItemD.fKey c xs + 1) := by
  obtain ⟨i, hi⟩ : ∃ i, i = lowI ItemD.fKey c xs := ⟨_, rfl⟩
  rw [← hi]
  unfold hitB at hh
  rw [← hi] at hh
  cases hx : xs[i]? with
  | none => rw [hx] at hh; simp at hh
  | some d =>
    rw [hx] at hh
    obtain ⟨hl, hd⟩ := List.getElem?_eq_some_iff.1 hx
    have hk : (xs[i]).fKey.toList = c := by rw [hd]; simpa using hh
    refine ⟨hl, ?_⟩
    have hlt := rises_lt hv
    have h1 : (xs.take i).filter (keptB c) = xs.take i := filter_all fun x hx => by
      obtain ⟨j, hj, rfl⟩ := List.getElem_of_mem hx
      simp only [List.length_take] at hj
      have := hlt i hl j (by omega)
      rw [hk] at this
      rw [List.getElem_take]
      simp only [keptB, Bool.not_eq_true', beq_eq_false_iff_ne]
      intro e; rw [e, bl_irrefl] at this; cases this
    have h2 : (xs.drop (i + 1)).filter (keptB c) = xs.drop (i + 1) := filter_all fun x hx => by
      obtain ⟨j, hj, rfl⟩ := List.getElem_of_mem hx
      simp only [List.length_drop] at hj
      have := hlt (i + 1 + j) (by omega) i (by omega)
      rw [hk] at this
      rw [List.getElem_drop]
      simp only [keptB, Bool.not_eq_true', beq_eq_false_iff_ne]
      intro e; rw [e, bl_irrefl] at this; cases this
    have h3 : keptB c xs[i] = false := by simp [keptB, hk]
    conv => lhs; rw [dropL, ← List.take_append_drop i xs, drop_cons xs i hl]
    rw [List.filter_append, List.filter_cons, h1, h2, h3]; simp
theorem lowI_all {xs : List ItemD} {c : List UInt8} : ∀ j, (hj : j < xs.length) → j < lowI ItemD.fKey c xs → Op.bytesLess xs[j].fKey.toList c = true := by
  induction xs with
  | nil => intro j hj; simp at hj
  | cons x xs ih =>
    intro j hj hl
    rw [lowI] at hl
    split at hl
    · rename_i hb
      cases j with
      | zero => exact hb
      | succ j => exact ih j (by simpa using hj) (by omega)
    · omega
theorem lowI_at {xs : List ItemD} {c : List UInt8} : (h : lowI ItemD.fKey c xs < xs.length) → Op.bytesLess (xs[lowI ItemD.fKey c xs]).fKey.toList c = false := by
  induction xs with
  | nil => intro h; simp at h
  | cons x xs ih =>
    intro h
    cases hb : Op.bytesLess x.fKey.toList c
    · have e : lowI ItemD.fKey c (x :: xs) = 0 := by rw [lowI, hb]; rfl
      simp only [e, List.getElem_cons_zero]; exact hb
    · have e : lowI ItemD.fKey c (x :: xs) = lowI ItemD.fKey c xs + 1 := by rw [lowI, hb]; rfl
      simp only [e, List.getElem_cons_succ]
      exact ih (by rw [e] at h; simpa using h)
theorem drop_miss {xs : List ItemD} {c : List UInt8} (hv : itemsB xs = true) (hh : hitB xs c = false) : dropL xs c = xs := by
  obtain ⟨i, hi⟩ : ∃ i, i = lowI ItemD.fKey c xs := ⟨_, rfl⟩
  have hlt := rises_lt hv
  unfold hitB at hh
  refine filter_all fun x hx => ?_
  obtain ⟨j, hj, rfl⟩ := List.getElem_of_mem hx
  simp only [keptB, Bool.not_eq_true', beq_eq_false_iff_ne]
  intro e
  by_cases h1 : j < lowI ItemD.fKey c xs
  · have := lowI_all j hj h1
    rw [e, bl_irrefl] at this; cases this
  · by_cases h2 : j = lowI ItemD.fKey c xs
    · subst h2
      rw [List.getElem?_eq_getElem hj] at hh
      simp only [e, beq_self_eq_true] at hh; cases hh
    · have hl : lowI ItemD.fKey c xs < xs.length := by omega
      have a := lowI_at (c := c) hl
      have b := hlt j hj (lowI ItemD.fKey c xs) (by omega)
      rw [e] at b
      rw [a] at b; cases b
def drR (xs : List ItemD) (c : List UInt8) : List ItemD := if itemsB xs && hitB xs c then dropL xs c else []
def drC (xs : List ItemD) (c : List UInt8) : Int := if itemsB xs then (if hitB xs c then 0 else 3) else 1
theorem drR_len (xs : List ItemD) (c : List UInt8) : (drR xs c).length ≤ xs.length := by
  unfold drR; split
  · exact List.length_filter_le _ _
  · simp
theorem drop_len {xs : List ItemD} {c : List UInt8} (hv : itemsB xs = true) : ((dropL xs c).length = xs.length) ↔ hitB xs c = false := by
  constructor
  · intro h
    cases hh : hitB xs c
    · rfl
    · have := drop_hit hv hh
      rw [this.2] at h; simp at h; omega
  · intro h; rw [drop_miss hv h]
end Go.Proofs.Ytgdkaadlhpehlaa
