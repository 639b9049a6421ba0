/- The program's split, the words of a line, lists read. -/
import Derived.Test.YtocpgnpdnoidnaaDoorReadD
namespace Go.Proofs.YtocpgnpdnoidnaaDoor
open Go.RowKit Go.Sort
set_option linter.unusedVariables false
set_option maxRecDepth 100000

theorem count_cut (c : UInt8) : ∀ (n : Nat) (l : List UInt8), l.length ≤ n → Lib.count l [c] + 1 = (cutAt c l).length := by
  intro n
  induction n with
  | zero =>
    intro l hl
    have : l = [] := List.eq_nil_of_length_eq_zero (by omega)
    subst this; rfl
  | succ n ih =>
    intro l hl
    rcases index_one c l with ⟨h1, h2⟩ | ⟨i, h1, h2, h3, h4⟩
    · rw [Lib.count_miss h1, cutAt_clean c l h2]; rfl
    · rw [Lib.count_hit (by simp) h1]
      simp only [List.length_cons, List.length_nil, Nat.zero_add]
      have h5 := ih (l.drop (i + 1)) (by rw [List.length_drop]; omega)
      conv => rhs; rw [h4]
      rw [cutAt_app c _ _ h3, List.length_cons, ← h5]
      omega
theorem splitB_cut (c : UInt8) (s : ByteArray) : Lib.splitB ⟨#[c]⟩ 0 (Lib.countB s ⟨#[c]⟩) s = cutB c s.data.toList := by
  have h1 := Lib.splitB_data ⟨#[c]⟩ 0 (Lib.countB s ⟨#[c]⟩) s
  have h2 : Lib.splitK [c] 0 (Lib.countB s ⟨#[c]⟩) s.data.toList = cutAt c s.data.toList := splitK_cut c _ _ (Nat.le_refl _)
  have h3 : (⟨#[c]⟩ : ByteArray).data.toList = [c] := rfl
  rw [h3, h2] at h1
  rw [cutB, ← h1, List.map_map]
  conv => lhs; rw [← List.map_id (Lib.splitB ⟨#[c]⟩ 0 (Lib.countB s ⟨#[c]⟩) s)]
  exact List.map_congr_left fun x _ => (bs_self x).symm
theorem cutB_len (c : UInt8) (l : List UInt8) : (cutB c l).length ≤ l.length + 1 := by rw [cutB, List.length_map]; exact cutAt_len c l
theorem slo_fresh {α : Type} {enc : α → List Value} (hn : ∀ x, (enc x).length = 1) (w : World) (xs : List α) (T : TypeId) {cs : Array Value} (hcs : cs = (xs.flatMap enc).toArray) {m : Nat} (hm : m = xs.length) (hl : xs.length ≤ 1048577) :
    SlO (w.alloc (.cells cs T)) w.heap.size 1 enc (.slice (some ⟨w.heap.size, 0, none⟩) m m) xs := by
  subst hm; subst hcs
  refine ⟨?_, fun b hb => by simp [Value.ownBlock] at hb; subst hb; exact ⟨by simp, Nat.le_refl _, fun j => World.frozen?_alloc_at _ _ _ _ rfl⟩⟩
  by_cases h0 : xs.length = 0
  · have : xs = [] := List.eq_nil_of_length_eq_zero h0
    subst this
    exact .inl ⟨_, 0, rfl, rfl, Nat.zero_le _⟩
  · refine .inr ⟨w.heap.size, 0, xs.length, rfl, by omega, Nat.le_refl _, by unfold maxLen; omega, Nat.le_refl _, by simp, fun i hi j hj => ?_⟩
    have hj0 : j = 0 := by omega
    subst hj0
    have := flat_get (n := 1) enc hn xs i hi 0 (by omega)
    have hfl := flat_len (n := 1) enc hn xs
    rw [World.cell?_alloc_at _ _ _ _ rfl, ← this, List.getD_eq_getElem?_getD]
    simp only [Nat.zero_add, Nat.add_zero, Nat.mul_one, List.getElem?_toArray]
    rw [List.getElem?_eq_getElem (by omega)]; rfl
theorem flat_encT (xs : List ByteArray) : xs.flatMap encT = xs.map Value.string := by
  induction xs with
  | nil => rfl
  | cons x xs ih => simp only [List.flatMap_cons, encT, ih, List.map_cons, List.singleton_append]
theorem c_Split (c : UInt8) (s : ByteArray) (w : World) (hs : (s.size : Int) ≤ 1048576) (hr : Rd w) :
    Calls Tryd.prog 115 #[.string s, .string ⟨#[c]⟩] w fun e w' => ∃ u, e = .returned u ∧ Below w.heap.size w w' ∧ SlO w' w.heap.size 1 encT u (cutB c s.data.toList) := by
  obtain ⟨m, hm⟩ := hr.mx
  refine (Tryd.strings_Split s ⟨#[c]⟩ m w (by omega) hm (Nat.le_refl 1)).mono fun e w' ⟨he, hw⟩ => ⟨_, he, ?_, ?_⟩
  · rw [hw]; exact (Below.refl _ _).alloc (Nat.le_refl _) _
  · rw [hw, splitB_cut]
    have hlen : Lib.countB s ⟨#[c]⟩ + 1 = (cutB c s.data.toList).length := by
      rw [cutB, List.length_map]; exact count_cut c _ s.data.toList (Nat.le_refl _)
    refine slo_fresh (fun _ => rfl) w (cutB c s.data.toList) _ (by rw [flat_encT]) hlen ?_
    have := cutB_len c s.data.toList
    have h2 : s.data.toList.length = s.size := by simp
    omega
def wordsL (l : List UInt8) : List (List UInt8) := (cutAt 32 l).filter fun p => !p.isEmpty
def keptS (x : ByteArray) : Bool := !x.toList.isEmpty
theorem words_map (l : List UInt8) : (wordsL l).map bs = (cutB 32 l).filter keptS := by
  rw [wordsL, cutB, List.filter_map]
  congr 1
  apply List.filter_congr
  intro p _
  show _ = keptS (bs p)
  rw [keptS, ByteArray.toList_eq, bs_list]
theorem filter_t {α : Type} (p : α → Bool) (xs : List α) (k : Nat) (h : k < xs.length) (hp : p xs[k] = true) : (xs.take (k + 1)).filter p = (xs.take k).filter p ++ [xs[k]] := by
  have e : xs.take (k + 1) = xs.take k ++ [xs[k]] := by simp
  rw [e, List.filter_append]; simp [hp]
theorem filter_f {α : Type} (p : α → Bool) (xs : List α) (k : Nat) (h : k < xs.length) (hp : p xs[k] = false) : (xs.take (k + 1)).filter p = (xs.take k).filter p := by
  have e : xs.take (k + 1) = xs.take k ++ [xs[k]] := by simp
  rw [e, List.filter_append]; simp [hp]
theorem filter_le {α : Type} (p : α → Bool) (xs : List α) (k : Nat) : ((xs.take k).filter p).length ≤ xs.length := by
  have h1 := List.length_filter_le p (xs.take k)
  have h2 : (xs.take k).length ≤ xs.length := by simp; omega
  omega
end Go.Proofs.YtocpgnpdnoidnaaDoor
