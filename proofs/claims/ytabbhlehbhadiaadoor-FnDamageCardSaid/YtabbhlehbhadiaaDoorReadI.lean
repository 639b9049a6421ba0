/- Lists of numbers read, both sides. -/
import Derived.Test.YtabbhlehbhadiaaDoorReadD
namespace Go.Proofs.YtabbhlehbhadiaaDoor
open Go.RowKit Go.Sort
set_option linter.unusedVariables false
set_option maxRecDepth 100000

def numS (x : ByteArray) : Int := numV x.data.toList
def okN (x : ByteArray) : Bool := numB x.data.toList && inB (numS x) (-1000000000000) 1000000000000
def rdP (l : List UInt8) : List ByteArray := cutB 44 l
def rdB (l : List UInt8) : Bool := (l == [45]) || (decide ((rdP l).length ≤ 64) && (rdP l).all okN)
def rdX (l : List UInt8) : List Int := if l == [45] then [] else if rdB l then (rdP l).map numS else []
theorem rd_dash {l : List UInt8} (h : (l == [45]) = true) : rdB l = true ∧ rdX l = [] := by simp [rdB, rdX, h]
theorem rd_long {l : List UInt8} (h : (l == [45]) = false) (h2 : ¬ (rdP l).length ≤ 64) : rdB l = false ∧ rdX l = [] := by simp [rdB, rdX, h, h2]
theorem rd_bad {l : List UInt8} (h : (l == [45]) = false) (h2 : (rdP l).all okN = false) : rdB l = false ∧ rdX l = [] := by simp only [rdB, rdX, h, h2]; simp
theorem rd_ok {l : List UInt8} (h : (l == [45]) = false) (h3 : (rdP l).length ≤ 64) (h2 : (rdP l).all okN = true) : rdB l = true ∧ rdX l = (rdP l).map numS := by simp only [rdB, rdX, h, h2]; simp [h3]
theorem map_take_snoc {α β : Type} (f : α → β) (xs : List α) (k : Nat) (h : k < xs.length) : (xs.take (k + 1)).map f = (xs.take k).map f ++ [f xs[k]] := by
  have e : xs.take (k + 1) = xs.take k ++ [xs[k]] := by simp
  rw [e, List.map_append]; rfl
def ListPost (l : List UInt8) (w : World) (e : Ending) (w' : World) : Prop := ∃ u, e = .returned (.tuple #[u, .bool (rdB l)]) ∧ Below w.heap.size w w' ∧ SlO w' w.heap.size 1 encI u (rdX l)
theorem listPost_none {l : List UInt8} {w w' : World} (h : Below w.heap.size w w') {b : Bool} (hr : rdB l = b ∧ rdX l = []) : ListPost l w (.returned (.tuple #[.slice none 0 0, .bool b])) w' :=
  ⟨_, by rw [hr.1], h, .inl ⟨none, 0, rfl, hr.2, Nat.zero_le _⟩, fun b hb => by simp [Value.ownBlock] at hb⟩
theorem cell_of_list {w : World} {lo : Nat} {ad : Option Addr} {cap : Nat} {xs : List ByteArray} (h : SlA w lo 1 encT (.slice ad xs.length cap) xs) {k : Nat} (hk : k < xs.length) :
    ∃ bb off, ad = some ⟨bb, off, none⟩ ∧ bb < w.heap.size ∧ w.cell? ⟨bb, off + k, none⟩ = some (.string xs[k]) := by
  rcases h with ⟨a', c', e', hx', _⟩ | ⟨b', off', c', e', hp', hc', hm', hlo', hbb', hcell'⟩
  · rw [hx'] at hk; simp at hk
  · simp only [Value.slice.injEq] at e'
    obtain ⟨rfl, -, rfl⟩ := e'
    exact ⟨b', off', rfl, hbb', by simpa [encT] using hcell' k hk 0 (by omega)⟩
theorem cutB_size (c : UInt8) (s : ByteArray) : ∀ x ∈ cutB c s.data.toList, x.size ≤ s.size := by
  have h : ∀ (l : List UInt8) (p : List UInt8), p ∈ cutAt c l → p.length ≤ l.length := by
    intro l
    induction l with
    | nil => intro p hp; simp [cutAt] at hp; subst hp; simp
    | cons a l ih =>
      intro p hp
      obtain ⟨q, r, hq⟩ := cutAt_some c l
      rw [cutAt] at hp
      by_cases ha : a = c
      · rw [if_pos ha] at hp
        rcases List.mem_cons.1 hp with rfl | hp
        · simp
        · have := ih p hp; simp; omega
      · rw [if_neg ha, hq] at hp
        rw [hq] at ih
        rcases List.mem_cons.1 hp with rfl | hp
        · have := ih q (by simp); simp; omega
        · have := ih p (List.mem_cons_of_mem _ hp); simp; omega
  intro x hx
  obtain ⟨p, hp, rfl⟩ := List.mem_map.1 hx
  rw [bs_size]
  have := h _ p hp
  simpa using this
end Go.Proofs.YtabbhlehbhadiaaDoor
