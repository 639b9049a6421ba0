/- What the searches for voyages have to do with one another; plain. -/
import Derived.Test.YtmolcfagmiecjaaPlanV
import Derived.Test.YtmolcfagmiecjaaSeekF
namespace Go.Proofs.Ytmolcfagmiecjaa
open Go.RowKit Go.Sort
set_option maxRecDepth 100000

/-! ### the orders that are reached -/
theorem mem_kids {tree : List Int → List (List Int)} {may : List Int → Int → Bool} {os x : List Int} : ∀ {n k : Nat}, x ∈ kidsF tree may os k n ↔ ∃ i : Nat, k ≤ i ∧ i < k + n ∧ may os i = true ∧ x ∈ tree (os ++ [(i : Int)])
  | 0, k => by simp [kidsF]; intro i h1 h2; omega
  | n + 1, k => by
    rw [kidsF, List.mem_append, mem_kids]
    constructor
    · rintro (h | ⟨i, h1, h2, h3⟩)
      · by_cases hm : may os k = true
        · rw [if_pos hm] at h; exact ⟨k, by omega, by omega, hm, h⟩
        · rw [if_neg hm] at h; cases h
      · exact ⟨i, by omega, by omega, h3⟩
    · rintro ⟨i, h1, h2, h3, h4⟩
      by_cases e : i = k
      · subst e; left; rw [if_pos h3]; exact h4
      · right; exact ⟨i, by omega, by omega, h3, h4⟩
theorem tree_head (may : List Int → Int → Bool) (m n : Nat) (os : List Int) : os ∈ treeF may m (n + 1) os := by rw [treeF]; exact List.mem_cons_self
theorem tree_next {may : List Int → Int → Bool} {m : Nat} {os : List Int} {k : Nat} (hm : may os k = true) (hk : k < m) : ∀ (n : Nat) (r : List Int), os ∈ treeF may m n r → os.length + 1 < r.length + n → os ++ [(k : Int)] ∈ treeF may m n r
  | 0, r, h, _ => by simp [treeF] at h
  | n + 1, r, h, hl => by
    rw [treeF, List.mem_cons] at h
    rw [treeF, List.mem_cons]
    right
    rw [mem_kids]
    rcases h with rfl | h
    · obtain ⟨n', rfl⟩ : ∃ n', n = n' + 1 := ⟨n - 1, by omega⟩
      exact ⟨k, by omega, by omega, hm, tree_head _ _ _ _⟩
    · rw [mem_kids] at h
      obtain ⟨i, h1, h2, h3, h4⟩ := h
      exact ⟨i, h1, h2, h3, tree_next hm hk n _ h4 (by simp; omega)⟩
def treeL : Nat → Nat
  | 0 => 0
  | n + 1 => 1 + 5 * treeL n
theorem kids_len {tree : List Int → List (List Int)} {may : List Int → Int → Bool} {os : List Int} {L : Nat} (h : ∀ x, (tree x).length ≤ L) : ∀ n k : Nat, (kidsF tree may os k n).length ≤ n * L
  | 0, k => by simp [kidsF]
  | n + 1, k => by
    rw [kidsF, List.length_append, Nat.add_mul]
    have := kids_len h (os := os) (may := may) n (k + 1)
    have h2 := h (os ++ [(k : Int)])
    split
    · omega
    · simp; omega
theorem tree_len {may : List Int → Int → Bool} {m : Nat} (hm : m ≤ 5) : ∀ (n : Nat) (os : List Int), (treeF may m n os).length ≤ treeL n
  | 0, os => by simp [treeF]
  | n + 1, os => by
    rw [treeF, List.length_cons, treeL]
    have h1 := kids_len (may := may) (os := os) (tree := treeF may m n) (fun x => tree_len hm n x) m 0
    have h2 : m * treeL n ≤ 5 * treeL n := Nat.mul_le_mul_right _ hm
    omega
theorem treeL_mono {m n : Nat} (h : m ≤ n) : treeL m ≤ treeL n := by
  induction h with
  | refl => exact Nat.le_refl _
  | step _ ih => rw [treeL]; omega
theorem allT_len {a b x y t : Int} {ws : List WorkD} (h : ws.length ≤ 5) : (allT a b x y ws t).length ≤ 4000 := by
  have h1 := tree_len (may := mayB a b x y ws t) h (ws.length + 1) []
  have h2 : treeL (ws.length + 1) ≤ treeL 6 := treeL_mono (by omega)
  have h3 : treeL 6 = 3906 := rfl
  unfold allT; omega
theorem allT_fine {a b x y t : Int} {ws : List WorkD} (hb : 0 ≤ b) : ∀ os ∈ allT a b x y ws t, FineO a b x y t ws os := tree_fine _ _ (fine_nil hb)
theorem greed_in {a b x y t : Int} {ws : List WorkD} : ∀ (n : Nat) (os : List Int), FineO a b x y t ws os → os ∈ allT a b x y ws t → greedF a b x y ws t n os ∈ allT a b x y ws t
  | 0, _, _, h => h
  | n + 1, os, hF, h => by
    rw [greedF]
    split
    · exact h
    · rename_i hn
      have hb := bestK_some (f := endK a b x y ws t os) ws.length (by omega)
      obtain ⟨k, hk⟩ : ∃ k : Nat, (bestK (endK a b x y ws t os) ws.length).1 = (k : Int) := ⟨(bestK (endK a b x y ws t os) ws.length).1.toNat, by omega⟩
      rw [hk] at hb ⊢
      have hm : mayB a b x y ws t os k = true := by rw [mayB, hb.2]; rfl
      have hF2 := hF.next (k := k) (by omega) hm
      have hl := hF2.len
      simp only [List.length_append, List.length_singleton] at hl
      exact greed_in n _ hF2 (tree_next hm (by omega) _ _ h (by simp; omega))

/-! ### what the searches make of them -/
theorem goF_free {A : Type} {reach : A → List Int → A × Bool} : ∀ (xs : List (List Int)) (b : Nat) (a : A), xs.length ≤ b → (goF reach xs b a).code ≠ 5
  | [], b, a, _ => by rw [goF_nil]; exact (by decide : (0 : Int) ≠ 5)
  | x :: xs, b, a, h => by
    have hb : b ≠ 0 := by simp at h; omega
    cases h2 : (reach a x).2
    · rw [goF_stop hb h2]; exact (by decide : (6 : Int) ≠ 5)
    · rw [goF_on hb h2]; exact goF_free xs _ _ (by simp at h; omega)
theorem goF_fold {A : Type} {reach : A → List Int → A × Bool} (hr : ∀ a os, (reach a os).2 = true) : ∀ (xs : List (List Int)) (b : Nat) (a : A), xs.length ≤ b → (goF reach xs b a).ans = xs.foldl (fun a os => (reach a os).1) a ∧ (goF reach xs b a).code = 0
  | [], b, a, _ => ⟨rfl, rfl⟩
  | x :: xs, b, a, h => by
    have hb : b ≠ 0 := by simp at h; omega
    rw [goF_on hb (hr a x)]; exact goF_fold hr xs _ _ (by simp at h; omega)
theorem fold_count (m : Nat) : ∀ (xs : List (List Int)) (n : Nat), n + xs.length ≤ 4000 → ∃ k : Nat, xs.foldl (fun a os => (countI m a os).1) (n : Int) = ((n + k : Nat) : Int) ∧ (0 < k ↔ ∃ os ∈ xs, os.length = m) ∧ k ≤ xs.length
  | [], n, _ => ⟨0, rfl, by simp, by simp⟩
  | x :: xs, n, h => by
    simp only [List.length_cons] at h
    rw [List.foldl_cons]
    by_cases e : x.length = m
    · have e2 : (countI m (n : Int) x).1 = ((n + 1 : Nat) : Int) := by
        rw [countI, if_pos e]
        show wrap64 _ = _
        unfold wrap64; omega
      rw [e2]
      obtain ⟨k, h1, h2, h3⟩ := fold_count m xs (n + 1) (by omega)
      exact ⟨k + 1, by rw [h1]; congr 1; omega, ⟨fun _ => ⟨x, by simp, e⟩, fun _ => by omega⟩, by simp; omega⟩
    · have e2 : (countI m (n : Int) x).1 = (n : Int) := by rw [countI, if_neg e]
      rw [e2]
      obtain ⟨k, h1, h2, h3⟩ := fold_count m xs n (by omega)
      refine ⟨k, h1, ?_, by simp; omega⟩
      rw [h2]; simp [e]
theorem go_first (m : Nat) : ∀ (xs : List (List Int)) (b : Nat), xs.length ≤ b → (∃ os ∈ xs, os.length = m ∧ (goF (firstI m) xs b none).ans = some os) ∨ ((goF (firstI m) xs b none).ans = none ∧ ∀ os ∈ xs, os.length ≠ m)
  | [], b, _ => .inr ⟨rfl, by simp⟩
  | x :: xs, b, h => by
    have hb : b ≠ 0 := by simp at h; omega
    by_cases e : x.length = m
    · left
      refine ⟨x, by simp, e, ?_⟩
      rw [goF_stop hb (by rw [firstI, if_pos e]), firstI, if_pos e]
    · have e1 : firstI m none x = (none, true) := by rw [firstI, if_neg e]; rfl
      rw [goF_on hb (by rw [e1]), e1]
      rcases go_first m xs (b - 1) (by simp at h; omega) with ⟨os, h1, h2, h3⟩ | ⟨h1, h2⟩
      · exact .inl ⟨os, by simp [h1], h2, h3⟩
      · exact .inr ⟨h1, by simp [e]; exact h2⟩
/-- the best: an order and when it ends -/
def bestI (endO : List Int → Int) (m : Nat) (a : Option (List Int)) (os : List Int) : Option (List Int) × Bool :=
  (if os.length = m then (match a with | none => some os | some o => if endO os < endO o then some os else some o) else a, true)
theorem fold_best (endO : List Int → Int) (m : Nat) : ∀ (xs : List (List Int)) (o : List Int), ∃ r, xs.foldl (fun a os => (bestI endO m a os).1) (some o) = some r ∧ (r = o ∨ (r ∈ xs ∧ r.length = m)) ∧ endO r ≤ endO o ∧ ∀ os ∈ xs, os.length = m → endO r ≤ endO os
  | [], o => ⟨o, rfl, .inl rfl, Int.le_refl _, by simp⟩
  | x :: xs, o => by
    rw [List.foldl_cons]
    by_cases e : x.length = m
    · by_cases e2 : endO x < endO o
      · have e3 : (bestI endO m (some o) x).1 = some x := by simp only [bestI, if_pos e, if_pos e2]
        rw [e3]
        obtain ⟨r, h1, h2, h3, h4⟩ := fold_best endO m xs x
        refine ⟨r, h1, .inr ?_, by omega, ?_⟩
        · rcases h2 with rfl | h2
          · exact ⟨by simp, e⟩
          · exact ⟨by simp [h2.1], h2.2⟩
        · intro os ho hl
          rcases List.mem_cons.1 ho with rfl | ho
          · exact h3
          · exact h4 os ho hl
      · have e3 : (bestI endO m (some o) x).1 = some o := by simp only [bestI, if_pos e, if_neg e2]
        rw [e3]
        obtain ⟨r, h1, h2, h3, h4⟩ := fold_best endO m xs o
        refine ⟨r, h1, ?_, h3, ?_⟩
        · rcases h2 with h2 | h2
          · exact .inl h2
          · exact .inr ⟨by simp [h2.1], h2.2⟩
        · intro os ho hl
          rcases List.mem_cons.1 ho with rfl | ho
          · omega
          · exact h4 os ho hl
    · have e3 : (bestI endO m (some o) x).1 = some o := by simp only [bestI, if_neg e]
      rw [e3]
      obtain ⟨r, h1, h2, h3, h4⟩ := fold_best endO m xs o
      refine ⟨r, h1, ?_, h3, ?_⟩
      · rcases h2 with h2 | h2
        · exact .inl h2
        · exact .inr ⟨by simp [h2.1], h2.2⟩
      · intro os ho hl
        rcases List.mem_cons.1 ho with rfl | ho
        · exact absurd hl e
        · exact h4 os ho hl
theorem fold_best0 (endO : List Int → Int) (m : Nat) : ∀ (xs : List (List Int)), (∃ r ∈ xs, xs.foldl (fun a os => (bestI endO m a os).1) none = some r ∧ r.length = m ∧ ∀ os ∈ xs, os.length = m → endO r ≤ endO os) ∨ (xs.foldl (fun a os => (bestI endO m a os).1) none = none ∧ ∀ os ∈ xs, os.length ≠ m)
  | [] => .inr ⟨rfl, by simp⟩
  | x :: xs => by
    rw [List.foldl_cons]
    by_cases e : x.length = m
    · have e3 : (bestI endO m none x).1 = some x := by simp only [bestI, if_pos e]
      rw [e3]
      obtain ⟨r, h1, h2, h3, h4⟩ := fold_best endO m xs x
      left
      rcases h2 with rfl | h2
      · refine ⟨r, by simp, h1, e, fun os ho hl => ?_⟩
        rcases List.mem_cons.1 ho with rfl | ho
        · omega
        · exact h4 os ho hl
      · refine ⟨r, by simp [h2.1], h1, h2.2, fun os ho hl => ?_⟩
        rcases List.mem_cons.1 ho with rfl | ho
        · exact h3
        · exact h4 os ho hl
    · have e3 : (bestI endO m none x).1 = none := by simp only [bestI, if_neg e]
      rw [e3]
      rcases fold_best0 endO m xs with ⟨r, h1, h2, h3, h4⟩ | ⟨h1, h2⟩
      · refine .inl ⟨r, by simp [h1], h2, h3, fun os ho hl => ?_⟩
        rcases List.mem_cons.1 ho with rfl | ho
        · exact absurd hl e
        · exact h4 os ho hl
      · refine .inr ⟨h1, fun os ho => ?_⟩
        rcases List.mem_cons.1 ho with rfl | ho
        · exact e
        · exact h2 os ho
theorem fold_most : ∀ (xs : List (List Int)) (o : List Int), (xs.foldl (fun a os => (mostI a os).1) o = o ∨ xs.foldl (fun a os => (mostI a os).1) o ∈ xs) ∧ o.length ≤ (xs.foldl (fun a os => (mostI a os).1) o).length ∧ ∀ os ∈ xs, os.length ≤ (xs.foldl (fun a os => (mostI a os).1) o).length
  | [], o => ⟨.inl rfl, Nat.le_refl _, by simp⟩
  | x :: xs, o => by
    rw [List.foldl_cons]
    by_cases e : o.length < x.length
    · have e2 : (mostI o x).1 = x := by rw [mostI, if_pos e]
      rw [e2]
      obtain ⟨h1, h2, h3⟩ := fold_most xs x
      refine ⟨.inr ?_, by omega, fun os ho => ?_⟩
      · rcases h1 with h1 | h1
        · rw [h1]; simp
        · simp [h1]
      · rcases List.mem_cons.1 ho with rfl | ho
        · exact h2
        · exact h3 os ho
    · have e2 : (mostI o x).1 = o := by rw [mostI, if_neg e]
      rw [e2]
      obtain ⟨h1, h2, h3⟩ := fold_most xs o
      refine ⟨?_, h2, fun os ho => ?_⟩
      · rcases h1 with h1 | h1
        · exact .inl h1
        · exact .inr (by simp [h1])
      · rcases List.mem_cons.1 ho with rfl | ho
        · omega
        · exact h3 os ho
/-! ### the works that are left -/
theorem restF_eq (os : List Int) : ∀ n, (restF os n).length = ((List.range n).filter fun i : Nat => !hasB os (i : Int)).length
  | 0 => rfl
  | n + 1 => by
    rw [restF, List.length_append, restF_eq os n, List.range_succ, List.filter_append, List.length_append]
    cases h : hasB os (n : Int) <;> simp [h]
theorem filter_two {α : Type} (p : α → Bool) (xs : List α) : (xs.filter p).length + (xs.filter fun x => !p x).length = xs.length := by
  induction xs with
  | nil => rfl
  | cons x xs ih => cases h : p x <;> simp [h] <;> omega
theorem rest_len {m : Nat} {os : List Int} (h : ordB m os = true) (hd : ∀ i j, (hi : i < os.length) → (hj : j < os.length) → os[i] = os[j] → i = j) : (restF os m).length + os.length = m := by
  have h1 : (os.map Int.toNat).Nodup := by
    refine List.pairwise_iff_getElem.2 fun i j hi hj hij e => ?_
    simp only [List.length_map] at hi hj
    rw [List.getElem_map, List.getElem_map] at e
    have a1 := ordB_true h i hi
    have a2 := ordB_true h j hj
    have := hd i j hi hj (by omega)
    omega
  have h2 : (os.map Int.toNat).length ≤ ((List.range m).filter fun i : Nat => hasB os (i : Int)).length := List.Nodup.length_le_of_subset h1 fun n hn => by
    obtain ⟨k, hk, rfl⟩ := List.mem_map.1 hn
    obtain ⟨i, hi, rfl⟩ := List.getElem_of_mem hk
    have := ordB_true h i hi
    rw [List.mem_filter, List.mem_range]
    exact ⟨by omega, by rw [hasB_iff, Int.toNat_of_nonneg (by omega)]; exact hk⟩
  have h3 : ((List.range m).filter fun i : Nat => hasB os (i : Int)).length ≤ (os.map Int.toNat).length := List.Nodup.length_le_of_subset (List.Pairwise.filter _ List.nodup_range) fun n hn => by
    rw [List.mem_filter, hasB_iff] at hn
    exact List.mem_map.2 ⟨n, hn.2, by simp⟩
  have h4 := filter_two (fun i : Nat => hasB os (i : Int)) (List.range m)
  rw [List.length_range] at h4
  rw [restF_eq]
  simp only [List.length_map] at h2 h3
  omega
end Go.Proofs.Ytmolcfagmiecjaa
