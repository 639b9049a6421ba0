/- A warning read: what both sides answer. Plain. -/
import Derived.Test.YtocpgnpdnoidnaaDoorWarnT
import Derived.Test.YtocpgnpdnoidnaaDoorPointRd
import Derived.Test.YtocpgnpdnoidnaaDoorTWarning
namespace Go.Proofs.YtocpgnpdnoidnaaDoor
open Go.RowKit Go.Sort
set_option linter.unusedVariables false
set_option maxRecDepth 100000

theorem ix_here {l : List UInt8} {j : Nat} (hj : j < l.length) (hn : (32 : UInt8) ∉ l.take j) (e : l[j] = 32) : Lib.index l [32] = j := by
  rcases index_one 32 l with ⟨h1, h2⟩ | ⟨i, h1, h2, h3, h4⟩
  · exact absurd (by rw [← e]; exact List.getElem_mem hj) h2
  · have h5 : l = l.take j ++ 32 :: l.drop (j + 1) := by
      conv => lhs; rw [← List.take_append_drop j l, List.drop_eq_getElem_cons hj, e]
    have c1 := cutAt_app 32 (l.drop (j + 1)) (l.take j) hn
    rw [← h5] at c1
    have c2 := cutAt_app 32 (l.drop (i + 1)) (l.take i) h3
    rw [← h4, c1] at c2
    injection c2 with e2 _
    have := congrArg List.length e2
    rw [List.length_take, List.length_take] at this
    rw [h1]; omega
theorem spK_here {l : List UInt8} {j : Nat} (hj : j < l.length) (hn : (32 : UInt8) ∉ l.take j) (e : l[j] = 32) (k : Nat) : Lib.splitK [32] 0 (k + 1) l = l.take j :: Lib.splitK [32] 0 k (l.drop (j + 1)) := by
  have h := ix_here hj hn e
  rw [Lib.splitK, h]
  have hm : ¬ ((j : Int) == -1) = true := fun e => by have := beq_iff_eq.1 e; omega
  rw [if_neg hm]; simp
theorem spK_miss {l : List UInt8} (h : (32 : UInt8) ∉ l) : ∀ k, Lib.splitK [32] 0 k l = [l]
  | 0 => rfl
  | k + 1 => by
    rcases index_one 32 l with ⟨h1, h2⟩ | ⟨i, h1, h2, h3, h4⟩
    · rw [Lib.splitK, h1]; rfl
    · exact absurd (by rw [h4]; simp) h
theorem spK_cases (k : Nat) (l : List UInt8) : Lib.splitK [32] 0 (k + 1) l = [l] ∨ ∃ i, i < l.length ∧ l = l.take i ++ 32 :: l.drop (i + 1) ∧ Lib.splitK [32] 0 (k + 1) l = l.take i :: Lib.splitK [32] 0 k (l.drop (i + 1)) := by
  rcases index_one 32 l with ⟨h1, h2⟩ | ⟨i, h1, h2, h3, h4⟩
  · exact .inl (spK_miss h2 _)
  · refine .inr ⟨i, h2, h4, ?_⟩
    refine spK_here h2 h3 ?_ k
    have h5 : (l.drop i) = 32 :: l.drop (i + 1) := by
      have := congrArg (List.drop i) h4
      rw [List.drop_append_of_le_length (by rw [List.length_take]; omega)] at this
      simpa using this
    have h6 := List.drop_eq_getElem_cons h2
    rw [h5] at h6; injection h6 with h6 _; exact h6.symm
theorem spK_len : ∀ (k : Nat) (l : List UInt8), (Lib.splitK [32] 0 k l).length ≤ k + 1 ∧ (Lib.splitK [32] 0 k l).length ≤ l.length + 1 ∧ 0 < (Lib.splitK [32] 0 k l).length
  | 0, l => ⟨Nat.le_refl _, by simp [Lib.splitK], by simp [Lib.splitK]⟩
  | k + 1, l => by
    rcases spK_cases k l with h | ⟨i, h1, h2, h3⟩
    · rw [h]; simp
    · have := spK_len k (l.drop (i + 1))
      rw [h3]
      rw [List.length_drop] at this
      simp only [List.length_cons]
      omega
theorem spK_jn : ∀ (k : Nat) (l : List UInt8), jn 32 (Lib.splitK [32] 0 k l) = l
  | 0, l => by simp [Lib.splitK, jn]
  | k + 1, l => by
    rcases spK_cases k l with h | ⟨i, h1, h2, h3⟩
    · rw [h]; simp [jn]
    · have ih := spK_jn k (l.drop (i + 1))
      have hp := (spK_len k (l.drop (i + 1))).2.2
      rw [h3]
      cases hq : Lib.splitK [32] 0 k (l.drop (i + 1)) with
      | nil => rw [hq] at hp; simp at hp
      | cons q r =>
        rw [jn_cons, ← hq, ih]
        conv => rhs; rw [h2]
def pcs (l : List UInt8) : List ByteArray := (Lib.splitK [32] 0 6 l).map bs
theorem pcs_jn (l : List UInt8) : jn 32 ((pcs l).map (·.data.toList)) = l := by
  rw [pcs, List.map_map]
  have : (Lib.splitK [32] 0 6 l).map ((fun x : ByteArray => x.data.toList) ∘ bs) = Lib.splitK [32] 0 6 l := by
    conv => rhs; rw [← List.map_id (Lib.splitK [32] 0 6 l)]
    exact List.map_congr_left fun x _ => bs_list x
  rw [this, spK_jn]
theorem pcs_few {l : List UInt8} (h : l.length < 6) : (pcs l).length ≠ 7 := by
  rw [pcs, List.length_map]
  have := spK_len 6 l
  omega

/-! ### the priority -/
def prioK (t : ByteArray) : Nat → Int
  | 0 => 0
  | k + 1 => if (nameP ((k : Int) + 1)).toList == t.toList then (k : Int) + 1 else prioK t k
theorem prioK_in (t : ByteArray) : ∀ k, 0 ≤ prioK t k ∧ prioK t k ≤ k
  | 0 => by simp [prioK]
  | k + 1 => by
    have := prioK_in t k
    rw [prioK]; split <;> omega
theorem prioK_name (t : ByteArray) : ∀ k, prioK t k = 0 ∨ nameP (prioK t k) = t
  | 0 => .inl rfl
  | k + 1 => by
    rw [prioK]
    split
    · rename_i h
      have h := beq_iff_eq.1 h
      rw [ByteArray.toList_eq, ByteArray.toList_eq] at h
      exact .inr (by rw [← bs_self (nameP _), h, bs_self])
    · exact prioK_name t k

/-! ### seven pieces -/
def wD (a p f u t r ws : ByteArray) : WarningD := ⟨numV a.data.toList, prioK p 3, numV f.data.toList, numV u.data.toList, ptX t.data.toList, ptY t.data.toList, numV r.data.toList, ws⟩
def wOk (a f u t r : ByteArray) : Bool := numB a.data.toList && numB f.data.toList && numB u.data.toList && ptB t.data.toList && numB r.data.toList
def wrd7 (c : WarningD → Bool) : List ByteArray → Option WarningD
  | [a, p, f, u, t, r, ws] => if wOk a f u t r && c (wD a p f u t r ws) then some (wD a p f u t r ws) else none
  | _ => none
theorem seven_of {xs : List ByteArray} (h : xs.length = 7) : ∃ a p f u t r ws, xs = [a, p, f, u, t, r, ws] := by
  match xs, h with
  | [a, p, f, u, t, r, ws], _ => exact ⟨a, p, f, u, t, r, ws, rfl⟩
theorem six_of {xs : List ByteArray} (h : xs.length = 6) : ∃ a p f u t r, xs = [a, p, f, u, t, r] := by
  match xs, h with
  | [a, p, f, u, t, r], _ => exact ⟨a, p, f, u, t, r, rfl⟩
theorem wrd7_len {c : WarningD → Bool} {ps : List ByteArray} (h : ps.length ≠ 7) : wrd7 c ps = none := by
  unfold wrd7
  split
  · exact absurd rfl h
  · rfl
def wtR (d : WarningD) : ByteArray := wrnR d.fNumber d.fPriority d.fFrom d.fUntil d.fAtX d.fAtY d.fRadius d.fWords
def wrnRd (s : ByteArray) : Option WarningD := wrd7 warnD (pcs s.data.toList)
def wrnRdI (s : ByteArray) : Option WarningD := wrd7 (fun d => (wtR d).toList == s.toList) (pcs s.data.toList)
theorem wrnRdI_eq (s : ByteArray) : wrnRdI s = wrnRd s := by
  unfold wrnRdI wrnRd
  by_cases h7 : (pcs s.data.toList).length = 7
  · obtain ⟨a, p, f, u, t, r, ws, e⟩ := seven_of h7
    have hj := pcs_jn s.data.toList
    rw [e] at hj ⊢
    simp only [wrd7]
    cases hk : wOk a f u t r with
    | false => rfl
    | true =>
      simp only [wOk, Bool.and_eq_true] at hk
      obtain ⟨⟨⟨⟨h1, h2⟩, h3⟩, h4⟩, h5⟩ := hk
      have hc : ((wtR (wD a p f u t r ws)).toList == s.toList) = warnD (wD a p f u t r ws) := by
        cases hw : warnD (wD a p f u t r ws) with
        | false =>
          have e0 : wtR (wD a p f u t r ws) = ⟨#[]⟩ := by unfold wtR wrnR; unfold warnD at hw; rw [hw]; rfl
          rw [e0, beq_eq_false_iff_ne]
          intro e1
          rw [ByteArray.toList_eq, ByteArray.toList_eq] at e1
          rw [← e1] at hj
          simp [jn_cons] at hj
        | true =>
          have e0 : wtR (wD a p f u t r ws) = wrnS (numV a.data.toList) (prioK p 3) (numV f.data.toList) (numV u.data.toList) (ptX t.data.toList) (ptY t.data.toList) (numV r.data.toList) ws := by unfold wtR wrnR; unfold warnD at hw; rw [hw]; rfl
          have hin := warn_in hw
          have hp : nameP (prioK p 3) = p := (prioK_name p 3).resolve_left (fun e => by have := hin.1.1; simp only [wD] at this; omega)
          have ht := ((pt_iff t.data.toList (ptX t.data.toList) (ptY t.data.toList)).1 ⟨h4, rfl, rfl⟩).1
          rw [e0, beq_iff_eq, ByteArray.toList_eq, ByteArray.toList_eq, wrnS, bs_list, wrnL, ← numB_itoa h1, hp, ← numB_itoa h2, ← numB_itoa h3, ht, ← numB_itoa h5]
          exact hj
      simp only [hc]
  · rw [wrd7_len h7, wrd7_len h7]
end Go.Proofs.YtocpgnpdnoidnaaDoor
