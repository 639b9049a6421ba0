/- A sector read, both sides' ways. Plain. -/
import Derived.Test.YtfnfkpmkppkleaaDoorPointRd
import Derived.Test.YtfnfkpmkppkleaaDoorSectI
namespace Go.Proofs.YtfnfkpmkppkleaaDoor
open Go.RowKit Go.Sort
set_option linter.unusedVariables false

def toP (r : List UInt8) : List UInt8 := r.take (r.length - 1)
def coP (r : List UInt8) : List UInt8 := r.drop (r.length - 1)
def secV (a r : List UInt8) : SectorD := ⟨numV a, numV (toP r), bs (coP r)⟩
/-- the reference's way: split at the dash -/
def secP (p : List UInt8) : Option SectorD :=
  match cutAt 45 p with
  | [a, r] => if decide (2 ≤ r.length) && numB a && numB (toP r) then some (secV a r) else none
  | _ => none
/-- the program's way: cut at the first dash -/
def secQ (p : List UInt8) : Option SectorD :=
  if decide ((Lib.cut p [45]).2.1 ≠ []) && numB (Lib.cut p [45]).1 && numB (toP (Lib.cut p [45]).2.1) then some (secV (Lib.cut p [45]).1 (Lib.cut p [45]).2.1) else none
theorem cut45_hit {l a b : List UInt8} (h : l = a ++ 45 :: b) (ha : (45 : UInt8) ∉ a) : (Lib.cut l [45]).1 = a ∧ (Lib.cut l [45]).2.1 = b := by
  rcases index_one 45 l with ⟨h1, h2⟩ | ⟨i, h1, h2, h3, h4⟩
  · exact absurd (by rw [h]; simp) h2
  · have e1 : (Lib.cut l [45]).1 = l.take i ∧ (Lib.cut l [45]).2.1 = l.drop (i + 1) := by
      unfold Lib.cut
      rw [h1, if_pos (by omega)]
      simp
    have c1 := cutAt_app 45 b a ha
    rw [← h] at c1
    have c2 := cutAt_app 45 (l.drop (i + 1)) (l.take i) h3
    rw [← h4] at c2
    rw [c1] at c2
    injection c2 with e2 e3
    refine ⟨e1.1.trans e2.symm, ?_⟩
    rw [e1.2]
    have h5 := h4.symm.trans h
    rw [← e2] at h5
    have h6 := List.append_cancel_left h5
    injection h6
theorem cut45_ne {l : List UInt8} (h : (Lib.cut l [45]).2.1 ≠ []) : l = (Lib.cut l [45]).1 ++ 45 :: (Lib.cut l [45]).2.1 := by
  rcases index_one 45 l with ⟨h1, h2⟩ | ⟨i, h1, h2, h3, h4⟩
  · exact absurd (by unfold Lib.cut; rw [h1, if_neg (by omega)]) h
  · have := cut45_hit h4 h3
    rw [this.1, this.2]; exact h4
theorem to_co (r : List UInt8) : r = toP r ++ coP r := by simp [toP, coP]
theorem secV_text {a r : List UInt8} (h1 : numB a = true) (h2 : numB (toP r) = true) : secL (secV a r) = a ++ 45 :: r := by
  rw [secL]
  show Lib.itoa (numV a) ++ 45 :: (Lib.itoa (numV (toP r)) ++ (bs (coP r)).data.toList) = _
  rw [← numB_itoa h1, ← numB_itoa h2, bs_list, ← to_co]
theorem secQ_some {p : List UInt8} {d : SectorD} (h : secQ p = some d) : secL d = p := by
  unfold secQ at h
  split at h
  · rename_i hc
    simp only [Bool.and_eq_true, decide_eq_true_eq] at hc
    injection h with h
    rw [← h, secV_text hc.1.2 hc.2]
    exact (cut45_ne hc.1.1).symm
  · cases h
theorem secP_some {p : List UInt8} {d : SectorD} (h : secP p = some d) : secL d = p := by
  unfold secP at h
  split at h
  · rename_i a r hc
    split at h
    · rename_i hb
      simp only [Bool.and_eq_true] at hb
      injection h with h
      have hj := jn_cutAt 45 p
      rw [hc, jn_cons] at hj
      rw [← h, secV_text hb.1.2 hb.2, ← hj]
      simp [jn]
    · cases h
  · cases h
theorem itoa_no45 {n : Int} (h : 0 ≤ n) : (45 : UInt8) ∉ Lib.itoa n := by
  intro e
  unfold Lib.itoa at e
  rw [if_neg (by omega)] at e
  have := dec_digits n.toNat 45 e
  simp at this
theorem colB_no {c : ByteArray} (h : colB c = true) : ∃ x, c = ⟨#[x]⟩ ∧ x ≠ 45 ∧ x ≠ 44 := by
  have h1 := colB_one h
  obtain ⟨⟨l⟩⟩ := c
  match l, h1 with
  | [x], _ =>
    have e : (ByteArray.mk #[x]).toList = [x] := by rw [ByteArray.toList_eq]
    unfold colB at h
    rw [e] at h
    refine ⟨x, rfl, ?_, ?_⟩
    · intro e2; subst e2; exact absurd h (by decide)
    · intro e2; subst e2; exact absurd h (by decide)
theorem sec_shape {d : SectorD} (h : sectB d.fFrom d.fTo d.fColor = true) :
    (0 ≤ d.fFrom ∧ d.fFrom ≤ 359) ∧ (0 ≤ d.fTo ∧ d.fTo ≤ 359) ∧ ∃ x, d.fColor = ⟨#[x]⟩ ∧ x ≠ 45 ∧ x ≠ 44 := by
  simp only [sectB, Bool.and_eq_true] at h
  have h1 := inB_true h.1
  have h2 := inB_true h.2.1
  exact ⟨by omega, by omega, colB_no h.2.2⟩
theorem sec_back {d : SectorD} (h : sectB d.fFrom d.fTo d.fColor = true) : secP (secL d) = some d ∧ secQ (secL d) = some d := by
  obtain ⟨hf, ht, x, hx, hx1, -⟩ := sec_shape h
  have n1 := num_some (num_itoa (n := d.fFrom) (by omega))
  have n2 := num_some (num_itoa (n := d.fTo) (by omega))
  have hcol : d.fColor.data.toList = [x] := by rw [hx]
  have hne : 1 ≤ (Lib.itoa d.fTo).length := by
    cases hq : Lib.itoa d.fTo with
    | nil => exact absurd hq (itoa_ne _)
    | cons _ _ => simp
  have hto : toP (Lib.itoa d.fTo ++ [x]) = Lib.itoa d.fTo := by simp [toP]
  have hco : coP (Lib.itoa d.fTo ++ [x]) = [x] := by simp [coP]
  have hv : secV (Lib.itoa d.fFrom) (Lib.itoa d.fTo ++ [x]) = d := by
    rw [secV, hto, hco, n1.1, n2.1]
    cases d
    simp only at hx
    rw [hx]; rfl
  have h45 : (45 : UInt8) ∉ Lib.itoa d.fTo ++ [x] := by
    simp only [List.mem_append, List.mem_singleton, not_or]
    exact ⟨itoa_no45 ht.1, fun e => hx1 e.symm⟩
  have hL : secL d = Lib.itoa d.fFrom ++ 45 :: (Lib.itoa d.fTo ++ [x]) := by rw [secL, hcol]
  constructor
  · rw [secP, hL, cutAt_app 45 _ _ (itoa_no45 hf.1), cutAt_clean 45 _ h45]
    simp only
    rw [hto, n1.2, n2.2, hv, if_pos]
    simp; omega
  · have hc := cut45_hit hL (itoa_no45 hf.1)
    rw [secQ, hc.1, hc.2, hto, n1.2, n2.2, hv, if_pos]
    simp
theorem secL_no44 {d : SectorD} (h : sectB d.fFrom d.fTo d.fColor = true) : (44 : UInt8) ∉ secL d := by
  obtain ⟨-, -, x, hx, -, hx2⟩ := sec_shape h
  have hcol : d.fColor.data.toList = [x] := by rw [hx]
  rw [secL, hcol]
  simp only [List.mem_append, List.mem_cons, List.not_mem_nil, or_false, not_or]
  exact ⟨itoa_no44 _, by decide, itoa_no44 _, fun e => hx2 e.symm⟩
end Go.Proofs.YtfnfkpmkppkleaaDoor
