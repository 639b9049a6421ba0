/- Searches for voyages: the orders that are reached, one after the other, and what is made of them; plain. -/
import Derived.Test.YtmolcfagmiecjaaGreedS
namespace Go.Proofs.Ytmolcfagmiecjaa
open Go.RowKit Go.Sort
set_option maxRecDepth 100000

/-! ### the orders that can be reached from one, in the order of the search -/
def kidsF (tree : List Int → List (List Int)) (may : List Int → Int → Bool) (os : List Int) : Nat → Nat → List (List Int)
  | _, 0 => []
  | k, n + 1 => (if may os k then tree (os ++ [(k : Int)]) else []) ++ kidsF tree may os (k + 1) n
def treeF (may : List Int → Int → Bool) (m : Nat) : Nat → List Int → List (List Int)
  | 0, _ => []
  | n + 1, os => os :: kidsF (treeF may m n) may os 0 m
/-- what is left of the children from the k-th on -/
def leftF (may : List Int → Int → Bool) (m n : Nat) (os : List Int) (k : Nat) : List (List Int) := kidsF (treeF may m n) may os k (m - k)
theorem leftF_start (may : List Int → Int → Bool) (m n : Nat) (os : List Int) : treeF may m (n + 1) os = os :: leftF may m n os 0 := by rw [treeF, leftF, Nat.sub_zero]
theorem leftF_end (may : List Int → Int → Bool) (m n : Nat) (os : List Int) : leftF may m n os m = [] := by rw [leftF, Nat.sub_self]; rfl
theorem leftF_yes {may : List Int → Int → Bool} {m n : Nat} {os : List Int} {k : Nat} (hk : k < m) (h : may os k = true) : leftF may m n os k = treeF may m n (os ++ [(k : Int)]) ++ leftF may m n os (k + 1) := by
  rw [leftF, show m - k = m - (k + 1) + 1 by omega, kidsF, if_pos h]; rfl
theorem leftF_no {may : List Int → Int → Bool} {m n : Nat} {os : List Int} {k : Nat} (hk : k < m) (h : may os k = false) : leftF may m n os k = leftF may m n os (k + 1) := by
  rw [leftF, show m - k = m - (k + 1) + 1 by omega, kidsF, if_neg (by rw [h]; decide)]; rfl

/-! ### what a search makes of them: an answer, what is left of the budget, a code -/
structure Res (A : Type) where
  ans : A
  left : Nat
  code : Int
def goF {A : Type} (reach : A → List Int → A × Bool) : List (List Int) → Nat → A → Res A
  | [], b, a => ⟨a, b, 0⟩
  | os :: r, b, a => if b = 0 then ⟨a, 0, 5⟩ else if (reach a os).2 then goF reach r (b - 1) (reach a os).1 else ⟨(reach a os).1, b - 1, 6⟩
theorem goF_nil {A : Type} (reach : A → List Int → A × Bool) (b : Nat) (a : A) : goF reach [] b a = ⟨a, b, 0⟩ := rfl
theorem goF_full {A : Type} (reach : A → List Int → A × Bool) (os : List Int) (r : List (List Int)) (a : A) : goF reach (os :: r) 0 a = ⟨a, 0, 5⟩ := rfl
theorem goF_stop {A : Type} {reach : A → List Int → A × Bool} {os : List Int} {r : List (List Int)} {b : Nat} {a : A} (hb : b ≠ 0) (h : (reach a os).2 = false) : goF reach (os :: r) b a = ⟨(reach a os).1, b - 1, 6⟩ := by
  rw [goF, if_neg hb, if_neg (by rw [h]; decide)]
theorem goF_on {A : Type} {reach : A → List Int → A × Bool} {os : List Int} {r : List (List Int)} {b : Nat} {a : A} (hb : b ≠ 0) (h : (reach a os).2 = true) : goF reach (os :: r) b a = goF reach r (b - 1) (reach a os).1 := by
  rw [goF, if_neg hb, if_pos h]
theorem goF_append {A : Type} (reach : A → List Int → A × Bool) : ∀ (xs ys : List (List Int)) (b : Nat) (a : A), goF reach (xs ++ ys) b a = if (goF reach xs b a).code = 0 then goF reach ys (goF reach xs b a).left (goF reach xs b a).ans else goF reach xs b a
  | [], ys, b, a => by simp [goF]
  | x :: xs, ys, b, a => by
    rw [List.cons_append]
    by_cases hb : b = 0
    · subst hb; rw [goF_full, goF_full]; simp
    · cases h : (reach a x).2
      · rw [goF_stop hb h, goF_stop hb h]; simp
      · rw [goF_on hb h, goF_on hb h]; exact goF_append reach xs ys _ _
theorem goF_left {A : Type} (reach : A → List Int → A × Bool) : ∀ (xs : List (List Int)) (b : Nat) (a : A), (goF reach xs b a).left ≤ b ∧ ((goF reach xs b a).code = 0 ∨ (goF reach xs b a).code = 5 ∨ (goF reach xs b a).code = 6)
  | [], b, a => ⟨Nat.le_refl _, .inl rfl⟩
  | x :: xs, b, a => by
    by_cases hb : b = 0
    · subst hb; rw [goF_full]; simp
    · cases h : (reach a x).2
      · rw [goF_stop hb h]; simp
      · rw [goF_on hb h]; have := goF_left reach xs (b - 1) (reach a x).1; exact ⟨by omega, this.2⟩
/-- a fact that every step keeps holds of the answer -/
theorem goF_inv {A : Type} {reach : A → List Int → A × Bool} {P : A → Prop} {Q : List Int → Prop} (hP : ∀ a os, P a → Q os → P (reach a os).1) : ∀ (xs : List (List Int)) (b : Nat) (a : A), (∀ x ∈ xs, Q x) → P a → P (goF reach xs b a).ans
  | [], b, a, _, h => h
  | x :: xs, b, a, hq, h => by
    by_cases hb : b = 0
    · subst hb; rw [goF_full]; exact h
    · cases h2 : (reach a x).2
      · rw [goF_stop hb h2]; exact hP a x h (hq x (by simp))
      · rw [goF_on hb h2]; exact goF_inv hP xs _ _ (fun y hy => hq y (by simp [hy])) (hP a x h (hq x (by simp)))

/-! ### the orders that are reached are fine -/
def mayB (a ld bx bY : Int) (ws : List WorkD) (t : Int) (os : List Int) (k : Int) : Bool := (endK a ld bx bY ws t os k).isSome
/-- an order that a voyage can take -/
def FineO (a ld bx bY t : Int) (ws : List WorkD) (os : List Int) : Prop := ∃ px py n l, GreedS a ld bx bY t ws os px py n l
theorem FineO.next {a ld bx bY t : Int} {ws : List WorkD} {os : List Int} (h : FineO a ld bx bY t ws os) {k : Nat} (hk : k < ws.length) (hm : mayB a ld bx bY ws t os k = true) : FineO a ld bx bY t ws (os ++ [(k : Int)]) := by
  obtain ⟨px, py, n, l, g⟩ := h
  unfold mayB at hm
  rw [g.eq] at hm
  obtain ⟨e, he⟩ := Option.isSome_iff_exists.1 hm
  exact ⟨_, _, _, _, g.next (by omega) (by omega) he⟩
theorem FineO.len {a ld bx bY t : Int} {ws : List WorkD} {os : List Int} (h : FineO a ld bx bY t ws os) : os.length ≤ ws.length := by
  obtain ⟨_, _, _, _, g⟩ := h; exact ord_len g.ord g.nodup
theorem kids_fine {Q : List Int → Prop} {tree : List Int → List (List Int)} {may : List Int → Int → Bool} {os : List Int} {m : Nat} (h : ∀ k : Nat, k < m → may os k = true → ∀ x ∈ tree (os ++ [(k : Int)]), Q x) : ∀ n k : Nat, k + n ≤ m → ∀ x ∈ kidsF tree may os k n, Q x
  | 0, _, _, x, hx => by simp [kidsF] at hx
  | n + 1, k, hk, x, hx => by
    rw [kidsF, List.mem_append] at hx
    rcases hx with hx | hx
    · split at hx
      · rename_i hm; exact h k (by omega) hm x hx
      · cases hx
    · exact kids_fine h n (k + 1) (by omega) x hx
theorem tree_fine {a ld bx bY t : Int} {ws : List WorkD} : ∀ (n : Nat) (os : List Int), FineO a ld bx bY t ws os → ∀ x ∈ treeF (mayB a ld bx bY ws t) ws.length n os, FineO a ld bx bY t ws x
  | 0, os, _, x, hx => by simp [treeF] at hx
  | n + 1, os, h, x, hx => by
    rw [treeF, List.mem_cons] at hx
    rcases hx with rfl | hx
    · exact h
    · exact kids_fine (fun k hk hm y hy => tree_fine n _ (h.next hk hm) y hy) ws.length 0 (by omega) x hx

/-! ### the four searches -/
def firstR (m : Nat) (a : Option (List Int)) (os : List Int) : Option (List Int) × Bool := if os.length = m then (some os, false) else (a, true)
def countR (m : Nat) (a : Nat) (os : List Int) : Nat × Bool := if os.length = m then (a + 1, true) else (a, true)
def mostR (a : List Int) (os : List Int) : List Int × Bool := if a.length < os.length then (os, true) else (a, true)
/-- all orders that are reached -/
def allT (a ld bx bY : Int) (ws : List WorkD) (t : Int) : List (List Int) := treeF (mayB a ld bx bY ws t) ws.length (ws.length + 1) []
end Go.Proofs.Ytmolcfagmiecjaa
