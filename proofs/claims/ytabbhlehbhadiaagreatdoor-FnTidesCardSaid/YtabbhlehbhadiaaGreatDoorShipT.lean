/- The text of a ship, both sides. -/
import Derived.Test.YtabbhlehbhadiaaGreatDoorList
import Derived.Test.YtabbhlehbhadiaaGreatDoorTShip
import Derived.Deep.RegionHeld3
namespace Go.Proofs.YtabbhlehbhadiaaGreatDoor
open Go.RowKit Go.Sort
set_option linter.unusedVariables false
set_option maxRecDepth 100000

theorem sl_fresh {α : Type} {enc : α → List Value} (hn : ∀ x, (enc x).length = 1) {W w : World} {bk : Nat} (xs : List α) {T : TypeId} {cs : Array Value} (hW : W = w.alloc (.cells cs T)) (hb : bk = w.heap.size) (hcs : cs = (xs.flatMap enc).toArray) {m : Nat} (hm : m = xs.length) (hl : xs.length ≤ 1048576) :
    SlA W 0 1 enc (.slice (some ⟨bk, 0, none⟩) m m) xs := by
  subst hW; subst hb; subst hm; subst hcs
  by_cases h0 : xs.length = 0
  · have : xs = [] := List.eq_nil_of_length_eq_zero h0
    subst this
    exact .inl ⟨_, 0, rfl, rfl, Nat.zero_le _⟩
  · refine .inr ⟨w.heap.size, 0, xs.length, rfl, by omega, Nat.le_refl _, by unfold maxLen; omega, Nat.zero_le _, by simp, fun i hi j hj => ?_⟩
    have hj0 : j = 0 := by omega
    subst hj0
    have := flat_get (n := 1) enc hn xs i hi 0 (by omega)
    have hfl := flat_len (n := 1) enc hn xs
    rw [World.cell?_alloc_at _ _ _ _ rfl, ← this, List.getD_eq_getElem?_getD]
    simp only [Nat.zero_add, Nat.add_zero, Nat.mul_one, List.getElem?_toArray]
    rw [List.getElem?_eq_getElem (by omega)]; rfl

theorem SlA.drew {α : Type} {w : World} {lo n : Nat} {enc : α → List Value} {v : Value} {xs : List α} (h : SlA w lo n enc v xs) : SlA w.drew lo n enc v xs := h.below (Below.drew (Below.refl w.heap.size w)) (Nat.le_refl _)
def shipT (s : ByteArray) (a b c : Int) : List UInt8 := s.data.toList ++ 32 :: listL [a, b, c]
def shipR (s : ByteArray) (a b c : Int) : ByteArray := if shipB s a b c then bs (shipT s a b c) else ⟨#[]⟩
theorem ship_cat (s : ByteArray) (l : List UInt8) : s ++ (⟨#[32]⟩ : ByteArray) ++ bs l = bs (s.data.toList ++ 32 :: l) := by
  have e : (⟨#[32]⟩ : ByteArray) = bs [32] := rfl
  rw [← bs_self s, e, bs_app, bs_app]; simp [bs]
theorem listL_size {xs : List Int} (h : ∀ x ∈ xs, I64 x) : (listL xs).length ≤ 22 * xs.length + 1 := by
  unfold listL; split
  · simp
  · have := numsL_size h; omega
theorem ship_fits {s : ByteArray} {a b c : Int} (h : shipB s a b c = true) : fitsB [a, b, c] = true ∧ (s.size : Int) ≤ 10 ∧ I64 a ∧ I64 b ∧ I64 c := by
  simp only [shipB, Bool.and_eq_true] at h
  obtain ⟨⟨⟨h0, h1⟩, h2⟩, h3⟩ := h
  have e1 := inB_true h1
  have e2 := inB_true h2
  have e3 := inB_true h3
  have e0 : (s.size : Int) ≤ 10 := by simp only [nameB, Bool.and_eq_true, decide_eq_true_eq] at h0; exact h0.1.1.2
  refine ⟨?_, e0, by unfold I64; omega, by unfold I64; omega, by unfold I64; omega⟩
  simp [fitsB, inB]; omega
end Go.Proofs.YtabbhlehbhadiaaGreatDoor
