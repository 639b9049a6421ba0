/- Worlds in which only some blocks have changed. -/
import Derived.Test.YtjibilibdjfdcaaSl
import Derived.ChangeOld
namespace Go.Proofs.Ytjibilibdjfdcaa
open Go.RowKit Go.Sort

/-- only blocks of M may have changed -/
structure Kept (M : Nat → Prop) (w w' : World) : Prop where
  os : w'.os = w.os
  tape : w'.tape = w.tape
  output : w'.output = w.output
  size : w.heap.size ≤ w'.heap.size
  block : ∀ k, k < w.heap.size → ¬ M k → w'.heap[k]? = w.heap[k]?
theorem Kept.refl (M : Nat → Prop) (w : World) : Kept M w w := ⟨rfl, rfl, rfl, Nat.le_refl _, fun _ _ _ => rfl⟩
theorem Kept.trans {M : Nat → Prop} {a b c : World} (h : Kept M a b) (k : Kept M b c) : Kept M a c :=
  ⟨k.os.trans h.os, k.tape.trans h.tape, k.output.trans h.output, Nat.le_trans h.size k.size, fun i hi hm => (k.block i (Nat.lt_of_lt_of_le hi h.size) hm).trans (h.block i hi hm)⟩
theorem Kept.mono {M M' : Nat → Prop} {a b : World} (h : Kept M a b) (hm : ∀ k, M k → M' k) : Kept M' a b := ⟨h.os, h.tape, h.output, h.size, fun i hi hn => h.block i hi fun h2 => hn (hm i h2)⟩
theorem Kept.of {M : Nat → Prop} {a b : World} (h : Below a.heap.size a b) : Kept M a b := ⟨h.os, h.tape, h.output, h.size, fun i hi _ => h.block i hi⟩
theorem Kept.below {M : Nat → Prop} {a b : World} (h : Kept M a b) {B : Nat} (hB : B ≤ a.heap.size) (hm : ∀ k, M k → B ≤ k) : Below B a b := ⟨h.os, h.tape, h.output, h.size, fun i hi => h.block i (by omega) fun h2 => by have := hm i h2; omega⟩
theorem Kept.set {M : Nat → Prop} {a b : World} (h : Kept M a b) (p : Addr) (u : Value) (hp : M p.block) : Kept M a (b.setCell p u) :=
  ⟨h.os, h.tape, h.output, by simpa [World.setCell] using h.size, fun i hi hn => (Below.heap_setCell b p u i (fun e => hn (e ▸ hp))).trans (h.block i hi hn)⟩
theorem Kept.cell {M : Nat → Prop} {w w' : World} (h : Kept M w w') {b o : Nat} (hb : b < w.heap.size) (hm : ¬ M b) {v : Value} (hv : w.cell? ⟨b, o, none⟩ = some v) : w'.cell? ⟨b, o, none⟩ = some v :=
  (World.cell?_of_block (a := ⟨b, o, none⟩) (h.block b hb hm)).trans hv
theorem Kept.frozen {M : Nat → Prop} {w w' : World} (h : Kept M w w') {b : Nat} (hb : b < w.heap.size) (hm : ¬ M b) (o : Nat) : w'.frozen? ⟨b, o, none⟩ = w.frozen? ⟨b, o, none⟩ :=
  World.frozen?_of_block (a := ⟨b, o, none⟩) (h.block b hb hm)
theorem SlA.kept {α : Type} {w w' : World} {lo n : Nat} {enc : α → List Value} {v : Value} {xs : List α} (h : SlA w lo n enc v xs) {M : Nat → Prop} (hk : Kept M w w') (hm : 0 < xs.length → ∀ b, v.ownBlock = some b → ¬ M b) : SlA w' lo n enc v xs := by
  rcases h with h | ⟨b, off, cap, rfl, h2, h3, h4, h5, h6, h7⟩
  · exact .inl h
  · exact .inr ⟨b, off, cap, rfl, h2, h3, h4, h5, Nat.lt_of_lt_of_le h6 hk.size, fun i hi j hj => hk.cell h6 (hm h2 b rfl) (h7 i hi j hj)⟩
theorem SlO.kept {α : Type} {w w' : World} {lo n : Nat} {enc : α → List Value} {v : Value} {xs : List α} (h : SlO w lo n enc v xs) {M : Nat → Prop} (hk : Kept M w w') (hm : ∀ b, v.ownBlock = some b → ¬ M b) : SlO w' lo n enc v xs :=
  ⟨h.1.kept hk (fun _ => hm), fun b hb => by obtain ⟨h1, h2, h3⟩ := h.2 b hb; exact ⟨Nat.lt_of_lt_of_le h1 hk.size, h2, fun j => by rw [hk.frozen h1 (hm b hb)]; exact h3 j⟩⟩
end Go.Proofs.Ytjibilibdjfdcaa
