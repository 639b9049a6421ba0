/- A slice of the call's own whose cells are written over; what stays as it was meanwhile. -/
import Derived.Test.YtjibilibdjfdcaaSl
import Derived.Maps.AppendAt
namespace Go.Proofs.Ytjibilibdjfdcaa
open Go.RowKit
set_option maxRecDepth 100000

theorem grownBy_refl (w : World) (r : Option Nat) : w.grownBy w r := ⟨rfl, rfl, rfl, Nat.le_refl _, fun _ _ _ => rfl⟩
theorem grownBy_set {w w' : World} {g o : Nat} {v : Value} (h : w.grownBy w' (some g)) : w.grownBy (w'.setCell ⟨g, o, none⟩ v) (some g) := by
  refine ⟨h.os, h.tape, h.output, by simpa [World.setCell] using h.size, fun k hk hne => ?_⟩
  rw [Below.heap_setCell w' ⟨g, o, none⟩ v k (by intro e; exact hne (by rw [e]))]
  exact h.block k hk hne
theorem grownBy_below {w w' w2 : World} {r : Option Nat} (h : w.grownBy w' r) (hb : Below w.heap.size w' w2) : w.grownBy w2 r :=
  ⟨hb.os.trans h.os, hb.tape.trans h.tape, hb.output.trans h.output, Nat.le_trans h.size hb.size, fun k hk hne => (hb.block k hk).trans (h.block k hk hne)⟩

theorem grownBy_of {w w' : World} (h : Below w.heap.size w w') (r : Option Nat) : w.grownBy w' r := ⟨h.os, h.tape, h.output, h.size, fun k hk _ => h.block k hk⟩

/-- the cells of block g behind 'off' are being written over: the first c are done -/
def MarkC (w0 w : World) (g off : Nat) (cs : List Value) (c : Nat) : Prop :=
  w0.grownBy w (some g) ∧ g < w0.heap.size ∧ (∀ j, w.frozen? ⟨g, j, none⟩ = false) ∧ (∀ j, j < cs.length → ∃ u, w.cell? ⟨g, off + j, none⟩ = some u) ∧ ∀ j, j < c → w.cell? ⟨g, off + j, none⟩ = some (cs.getD j undef)
theorem MarkC.set {w0 w : World} {g off c c' : Nat} {cs : List Value} {v : Value} (h : MarkC w0 w g off cs c) (hc : c < cs.length) (hv : v = cs.getD c undef) (hc' : c' = c + 1) : MarkC w0 (w.setCell ⟨g, off + c, none⟩ v) g off cs c' := by
  subst hc'
  obtain ⟨h1, h2, h3, h4, h5⟩ := h
  obtain ⟨u, hu⟩ := h4 c hc
  refine ⟨grownBy_set h1, h2, fun j => by rw [World.frozen?_setCell]; exact h3 j, fun j hj => ?_, fun j hj => ?_⟩
  · obtain ⟨u', hu'⟩ := h4 j hj
    exact cell?_setCell_some hu'
  · by_cases e : j = c
    · subst e; rw [World.cell?_setCell_same w _ _ hu, hv]
    · rw [World.cell?_setCell_other w _ _ _ (fun hh => e (by have := (Addr.mk.injEq .. ▸ hh).2.1; omega))]; exact h5 j (by omega)
theorem MarkC.below {w0 w w' : World} {g off c : Nat} {cs : List Value} (h : MarkC w0 w g off cs c) (hb : Below w0.heap.size w w') : MarkC w0 w' g off cs c := by
  obtain ⟨h1, h2, h3, h4, h5⟩ := h
  have hc : ∀ j, w'.cell? ⟨g, j, none⟩ = w.cell? ⟨g, j, none⟩ := fun j => hb.cell (p := ⟨g, j, none⟩) h2
  have hf : ∀ j, w'.frozen? ⟨g, j, none⟩ = w.frozen? ⟨g, j, none⟩ := fun j => hb.frozen (p := ⟨g, j, none⟩) h2
  exact ⟨grownBy_below h1 hb, h2, fun j => by rw [hf, h3], fun j hj => by rw [hc]; exact h4 j hj, fun j hj => by rw [hc]; exact h5 j hj⟩
/-- what a mark leaves of another list -/
theorem SlA.grown {α : Type} {w w' : World} {r : Option Nat} {lo n : Nat} {enc : α → List Value} {v : Value} {xs : List α} (h : SlA w lo n enc v xs) (hg : w.grownBy w' r) (hr : ∀ b, v.ownBlock = some b → some b ≠ r) : SlA w' lo n enc v xs := by
  rcases h with h | ⟨b, off, cap, rfl, h2, h3, h4, h5, h6, h7⟩
  · exact .inl h
  · refine .inr ⟨b, off, cap, rfl, h2, h3, h4, h5, Nat.lt_of_lt_of_le h6 hg.size, fun i hi j hj => ?_⟩
    rw [World.cell?_of_block (a := ⟨b, off + i * n + j, none⟩) (hg.block b h6 (hr b rfl))]
    exact h7 i hi j hj
theorem SlO.grown {α : Type} {w w' : World} {r : Option Nat} {lo n : Nat} {enc : α → List Value} {v : Value} {xs : List α} (h : SlO w lo n enc v xs) (hg : w.grownBy w' r) (hr : ∀ b, v.ownBlock = some b → some b ≠ r) : SlO w' lo n enc v xs :=
  ⟨h.1.grown hg hr, fun b hv => by
    obtain ⟨h1, h2, h3⟩ := h.2 b hv
    exact ⟨Nat.lt_of_lt_of_le h1 hg.size, h2, fun j => by rw [World.frozen?_of_block (a := ⟨b, j, none⟩) (hg.block b h1 (hr b hv))]; exact h3 j⟩⟩
theorem MarkC.start {α : Type} {w : World} {lo n off b cap : Nat} {enc : α → List Value} (hn : ∀ x, (enc x).length = n) {xs ys : List α} (h : SlO w lo n enc (.slice (some ⟨b, off, none⟩) xs.length cap) xs) (hl : ys.length = xs.length) : 0 < xs.length → MarkC w w b off (ys.flatMap enc) 0 := by
  intro hp
  obtain ⟨h1, h2, h3⟩ := h.2 b rfl
  refine ⟨grownBy_refl _ _, h1, h3, fun j hj => ?_, fun j hj => by omega⟩
  rw [flat_len enc hn, hl] at hj
  rcases h.1 with ⟨_, _, _, e, _⟩ | ⟨b', off', cap', e, -, -, -, -, -, hx⟩
  · rw [e] at hp; simp at hp
  · simp only [Value.slice.injEq, Option.some.injEq, Addr.mk.injEq] at e
    obtain ⟨⟨rfl, rfl, -⟩, -, -⟩ := e
    have hn0 : 0 < n := by rcases Nat.eq_zero_or_pos n with e0 | e0; · rw [e0] at hj; simp at hj
                           · exact e0
    have := hx (j / n) (Nat.div_lt_of_lt_mul (by rw [Nat.mul_comm]; exact hj)) (j % n) (Nat.mod_lt _ hn0)
    rw [Nat.add_assoc, Nat.div_add_mod'] at this
    exact ⟨_, this⟩
theorem MarkC.own {α : Type} {w0 w : World} {g off n lo cap : Nat} {enc : α → List Value} (hn : ∀ x, (enc x).length = n) {ys : List α} (h : MarkC w0 w g off (ys.flatMap enc) (ys.length * n)) (hlo : lo ≤ g) (hc : ys.length ≤ cap) (hm : cap ≤ maxLen) : SlO w lo n enc (.slice (some ⟨g, off, none⟩) ys.length cap) ys := by
  obtain ⟨h1, h2, h3, h4, h5⟩ := h
  have hg : g < w.heap.size := Nat.lt_of_lt_of_le h2 h1.size
  refine ⟨?_, fun b hv => by simp [Value.ownBlock] at hv; subst hv; exact ⟨hg, hlo, h3⟩⟩
  by_cases e : ys.length = 0
  · have : ys = [] := List.eq_nil_of_length_eq_zero e
    subst this
    exact .inl ⟨_, cap, rfl, rfl, hm⟩
  · refine .inr ⟨g, off, cap, rfl, by omega, hc, hm, hlo, hg, fun i hi j hj => ?_⟩
    rw [Nat.add_assoc, h5 (i * n + j) (by have := Nat.mul_le_mul_right n (show i + 1 ≤ ys.length by omega); rw [Nat.add_mul] at this; omega), flat_get enc hn ys i hi j hj]
end Go.Proofs.Ytjibilibdjfdcaa
