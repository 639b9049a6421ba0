/- Slices read as lists: of whatever elements, each of n cells. -/
import Derived.Test.YtjibilibdjfdcaaOpen
namespace Go.Proofs.Ytjibilibdjfdcaa
open Go.RowKit

/-- the slice value v reads in world w as the list xs, each element n cells, in a block from lo on -/
def SlA {α : Type} (w : World) (lo n : Nat) (enc : α → List Value) (v : Value) (xs : List α) : Prop :=
  (∃ a cap, v = .slice a 0 cap ∧ xs = [] ∧ cap ≤ maxLen) ∨
  (∃ b off cap, v = .slice (some ⟨b, off, none⟩) xs.length cap ∧ 0 < xs.length ∧ xs.length ≤ cap ∧ cap ≤ maxLen ∧ lo ≤ b ∧ b < w.heap.size ∧
    ∀ i, (h : i < xs.length) → ∀ j, j < n → w.cell? ⟨b, off + i * n + j, none⟩ = some ((enc xs[i]).getD j undef))

theorem SlA.below {α : Type} {w w' : World} {lo n : Nat} {enc : α → List Value} {v : Value} {xs : List α} (h : SlA w lo n enc v xs) {B : Nat} (hb : Below B w w') (hB : w.heap.size ≤ B) : SlA w' lo n enc v xs := by
  rcases h with h | ⟨b, off, cap, h1, h2, h3, h4, h5, h6, h7⟩
  · exact .inl h
  · refine .inr ⟨b, off, cap, h1, h2, h3, h4, h5, by have := hb.size; omega, fun i hi j hj => ?_⟩
    rw [hb.cell (p := ⟨b, off + i * n + j, none⟩) (by simp; omega)]
    exact h7 i hi j hj
theorem SlA.mono {α : Type} {w : World} {lo lo' n : Nat} {enc : α → List Value} {v : Value} {xs : List α} (h : SlA w lo n enc v xs) (hl : lo' ≤ lo) : SlA w lo' n enc v xs := by
  rcases h with h | ⟨b, off, cap, h1, h2, h3, h4, h5, h6, h7⟩
  · exact .inl h
  · exact .inr ⟨b, off, cap, h1, h2, h3, h4, by omega, h6, h7⟩

/-- .. and it is the call's own: not frozen -/
def SlO {α : Type} (w : World) (lo n : Nat) (enc : α → List Value) (v : Value) (xs : List α) : Prop :=
  SlA w lo n enc v xs ∧ ∀ b, v.ownBlock = some b → b < w.heap.size ∧ lo ≤ b ∧ ∀ j, w.frozen? ⟨b, j, none⟩ = false
theorem SlO.below {α : Type} {w w' : World} {lo n : Nat} {enc : α → List Value} {v : Value} {xs : List α} (h : SlO w lo n enc v xs) {B : Nat} (hb : Below B w w') (hB : w.heap.size ≤ B) : SlO w' lo n enc v xs :=
  ⟨h.1.below hb hB, fun b hv => by
    obtain ⟨h1, h2, h3⟩ := h.2 b hv
    exact ⟨by have := hb.size; omega, h2, fun j => by rw [hb.frozen (p := ⟨b, j, none⟩) (by simp; omega)]; exact h3 j⟩⟩
theorem SlO.mono {α : Type} {w : World} {lo lo' n : Nat} {enc : α → List Value} {v : Value} {xs : List α} (h : SlO w lo n enc v xs) (hl : lo' ≤ lo) : SlO w lo' n enc v xs :=
  ⟨h.1.mono hl, fun b hv => by obtain ⟨h1, h2, h3⟩ := h.2 b hv; exact ⟨h1, by omega, h3⟩⟩

theorem SlO.setLt {α : Type} {w : World} {lo n : Nat} {enc : α → List Value} {v : Value} {xs : List α} (h : SlO w lo n enc v xs) {p : Addr} (hp : p.block < lo) (u : Value) : SlO (w.setCell p u) lo n enc v xs := by
  have hb : ∀ g, lo ≤ g → (w.setCell p u).heap[g]? = w.heap[g]? := fun g hg => Below.heap_setCell w p u g (by omega)
  have hs : (w.setCell p u).heap.size = w.heap.size := by simp [World.setCell]
  refine ⟨?_, fun b hv => ?_⟩
  · rcases h.1 with h | ⟨b, off, cap, h1, h2, h3, h4, h5, h6, h7⟩
    · exact .inl h
    · refine .inr ⟨b, off, cap, h1, h2, h3, h4, h5, by omega, fun i hi j hj => ?_⟩
      rw [World.cell?_of_block (w := w) (a := ⟨b, off + i * n + j, none⟩) (hb b h5)]
      exact h7 i hi j hj
  · obtain ⟨h1, h2, h3⟩ := h.2 b hv
    exact ⟨by omega, h2, fun j => by rw [World.frozen?_of_block (w := w) (a := ⟨b, j, none⟩) (hb b h2)]; exact h3 j⟩
theorem SlO.at {α : Type} {w w' : World} {lo n : Nat} {enc : α → List Value} {v : Value} {xs : List α} (h : SlO w lo n enc v xs) (hb : Below w.heap.size w w') : SlA w' 0 n enc v xs := (h.1.below hb (Nat.le_refl _)).mono (Nat.zero_le _)
theorem SlA.at {α : Type} {w w' : World} {lo n : Nat} {enc : α → List Value} {v : Value} {xs : List α} (h : SlA w lo n enc v xs) (hb : Below w.heap.size w w') : SlA w' lo n enc v xs := h.below hb (Nat.le_refl _)
def encI (x : Int) : List Value := [.int .i64 x]
def encT (s : ByteArray) : List Value := [.string s]

/-- nil or not, in one form: what leads to cells does so only where there is an element -/
theorem SlA.uni {α : Type} {w : World} {lo n : Nat} {enc : α → List Value} {v : Value} {xs : List α} (h : SlA w lo n enc v xs) : ∃ ad cap b off, v = .slice ad xs.length cap ∧ xs.length ≤ 9223372036854775807 ∧
    (0 < xs.length → ad = some ⟨b, off, none⟩ ∧ b < w.heap.size ∧ lo ≤ b ∧ xs.length ≤ cap ∧ cap ≤ 9223372036854775807) ∧ ∀ i, (h : i < xs.length) → ∀ j, j < n → w.cell? ⟨b, off + i * n + j, none⟩ = some ((enc xs[i]).getD j undef) := by
  rcases h with ⟨a, cap, rfl, rfl, hcap⟩ | ⟨b, off, cap, rfl, hp, hc, hm, hlo, hb, hx⟩
  · exact ⟨a, cap, 0, 0, rfl, by simp, fun h => by simp at h, fun i hi => by simp at hi⟩
  · unfold maxLen at hm
    exact ⟨_, cap, b, off, rfl, by omega, fun _ => ⟨rfl, hb, hlo, hc, by omega⟩, hx⟩

theorem SlA.form {α : Type} {w : World} {lo n : Nat} {enc : α → List Value} {v : Value} {xs : List α} (h : SlA w lo n enc v xs) : ∃ ad cap, v = .slice ad xs.length cap := by
  obtain ⟨ad, cap, _, _, e, _⟩ := h.uni
  exact ⟨ad, cap, e⟩
/-- a choice of data, one for each place -/
theorem list_of {α : Type} (Q : Nat → α → Prop) : ∀ n : Nat, (∀ i, i < n → ∃ x, Q i x) → ∃ xs : List α, xs.length = n ∧ ∀ i, (h : i < xs.length) → Q i xs[i]
  | 0, _ => ⟨[], rfl, fun i h => by simp at h⟩
  | n + 1, h => by
    obtain ⟨xs, hl, hx⟩ := list_of Q n fun i hi => h i (by omega)
    obtain ⟨x, hx'⟩ := h n (by omega)
    refine ⟨xs ++ [x], by simp [hl], fun i hi => ?_⟩
    by_cases hlt : i < xs.length
    · rw [List.getElem_append_left hlt]; exact hx i hlt
    · have : i = xs.length := by simp at hi; omega
      subst this
      simp; rw [hl]; exact hx'

/-- a slice argument, opened -/
theorem SlA.of_rds {α : Type} {P : Program} {w : World} {T e : TypeId} {n : Nat} {enc : α → List Value} {v : Value} (hu : P.underlying T = some (.slice e)) (hn : P.cellsOf e = n) (hpos : 0 < n)
    {ok : α → Prop} (he : ∀ es, Rds P w e es → ∃ x, es = enc x ∧ ok x) (h : Rds P w T [v]) : ∃ xs, SlA w 0 n enc v xs ∧ ∀ x ∈ xs, ok x := by
  rcases Rds.sl hu h with h | ⟨a, len, cap, h1, h2, h3, h4⟩
  · simp at h; subst h; exact ⟨[], .inl ⟨none, 0, rfl, rfl, Nat.zero_le _⟩, fun x hx => by cases hx⟩
  · simp at h1; subst h1
    rw [hn] at h4
    cases len with
    | zero => exact ⟨[], .inl ⟨some a, cap, rfl, rfl, h3⟩, fun x hx => by cases hx⟩
    | succ len =>
      obtain ⟨xs, hl, hx⟩ := list_of (fun i x => ok x ∧ ∀ j, j < n → w.cell? ((a.add (i * n)).add j) = some ((enc x).getD j undef)) (len + 1) fun i hi => by
        obtain ⟨es, k1, k2, k3⟩ := h4 i hi
        obtain ⟨x, rfl, hox⟩ := he es k3
        exact ⟨x, hox, fun j hj => k2 j (by omega)⟩
      obtain ⟨b, off, spot⟩ := a
      have h00 := (hx 0 (by omega)).2 0 hpos
      have hspot : spot = none := by simpa [Addr.add] using World.cell?_spot h00
      subst hspot
      have hlt := World.block_lt_of_cell? w _ h00
      refine ⟨xs, .inr ⟨b, off, cap, by rw [hl], by omega, by omega, h3, Nat.zero_le _, by simpa [Addr.add] using hlt, fun i hi j hj => ?_⟩, fun x hm => by obtain ⟨i, hi, rfl⟩ := List.getElem_of_mem hm; exact (hx i hi).1⟩
      have := (hx i hi).2 j hj
      rw [Addr.add_lit, Addr.add_lit] at this
      exact this

/-! ### a row of the call's own that is filled cell by cell -/
def PartC (w : World) (g : Nat) (cs : List Value) (c : Nat) : Prop :=
  g < w.heap.size ∧ c ≤ cs.length ∧ (∀ j, w.frozen? ⟨g, j, none⟩ = false) ∧ (∀ j, j < cs.length → ∃ u, w.cell? ⟨g, j, none⟩ = some u) ∧ ∀ j, j < c → w.cell? ⟨g, j, none⟩ = some (cs.getD j undef)

theorem PartC.below {w w' : World} {g c B : Nat} {cs : List Value} (h : PartC w g cs c) (hb : Below B w w') (hB : w.heap.size ≤ B) : PartC w' g cs c := by
  obtain ⟨h1, h2, h3, h4, h5⟩ := h
  have hc : ∀ j, w'.cell? ⟨g, j, none⟩ = w.cell? ⟨g, j, none⟩ := fun j => hb.cell (p := ⟨g, j, none⟩) (by simp; omega)
  have hf : ∀ j, w'.frozen? ⟨g, j, none⟩ = w.frozen? ⟨g, j, none⟩ := fun j => hb.frozen (p := ⟨g, j, none⟩) (by simp; omega)
  exact ⟨by have := hb.size; omega, h2, fun j => by rw [hf, h3], fun j hj => by rw [hc]; exact h4 j hj, fun j hj => by rw [hc]; exact h5 j hj⟩

theorem PartC.set {w : World} {g c c' : Nat} {cs : List Value} {v : Value} (h : PartC w g cs c) (hc : c < cs.length) (hv : v = cs.getD c undef) (hc' : c' = c + 1) : PartC (w.setCell ⟨g, c, none⟩ v) g cs c' := by
  subst hc'
  obtain ⟨h1, h2, h3, h4, h5⟩ := h
  obtain ⟨u, hu⟩ := h4 c hc
  refine ⟨by simpa [World.setCell] using h1, by omega, fun j => by rw [World.frozen?_setCell]; exact h3 j, fun j hj => ?_, fun j hj => ?_⟩
  · obtain ⟨u', hu'⟩ := h4 j hj
    exact cell?_setCell_some hu'
  · by_cases e : j = c
    · subst e; rw [World.cell?_setCell_same w _ _ hu, hv]
    · rw [World.cell?_setCell_other w _ _ _ (fun hh => e (by simpa using (Addr.mk.injEq .. ▸ hh).2.1.symm))]; exact h5 j (by omega)

theorem flat_len {α : Type} {n : Nat} (enc : α → List Value) (hn : ∀ x, (enc x).length = n) : ∀ xs : List α, (xs.flatMap enc).length = xs.length * n
  | [] => by simp
  | x :: xs => by rw [List.flatMap_cons, List.length_append, hn, flat_len enc hn xs, List.length_cons, Nat.add_mul]; omega
theorem flat_get {α : Type} {n : Nat} (enc : α → List Value) (hn : ∀ x, (enc x).length = n) : ∀ (xs : List α) (i : Nat) (h : i < xs.length) (j : Nat), j < n → (xs.flatMap enc).getD (i * n + j) undef = (enc xs[i]).getD j undef
  | [], i, h, _, _ => by simp at h
  | x :: xs, 0, _, j, hj => by
    simp only [List.flatMap_cons, List.getD_eq_getElem?_getD, Nat.zero_mul, Nat.zero_add, List.getElem_cons_zero]
    rw [List.getElem?_append_left (by rw [hn]; exact hj)]
  | x :: xs, i + 1, h, j, hj => by
    have ih := flat_get enc hn xs i (by simpa using h) j hj
    simp only [List.flatMap_cons, List.getD_eq_getElem?_getD, List.getElem_cons_succ] at ih ⊢
    rw [List.getElem?_append_right (by rw [hn, Nat.add_mul]; omega), hn, ← ih]
    congr 2; rw [Nat.add_mul]; omega

theorem PartC.done {α : Type} {w : World} {g n lo cap : Nat} {enc : α → List Value} (hn : ∀ x, (enc x).length = n) {xs : List α} (h : PartC w g (xs.flatMap enc) (xs.length * n)) (hlo : lo ≤ g) (hc : xs.length ≤ cap) (hm : cap ≤ maxLen) : SlA w lo n enc (.slice (some ⟨g, 0, none⟩) xs.length cap) xs := by
  obtain ⟨h1, h2, h3, h4, h5⟩ := h
  by_cases e : xs.length = 0
  · have : xs = [] := List.eq_nil_of_length_eq_zero e
    subst this
    exact .inl ⟨_, cap, rfl, rfl, hm⟩
  · refine .inr ⟨g, 0, cap, rfl, by omega, hc, hm, hlo, h1, fun i hi j hj => ?_⟩
    rw [Nat.zero_add, h5 (i * n + j) (by have := Nat.mul_le_mul_right n (show i + 1 ≤ xs.length by omega); rw [Nat.add_mul] at this; omega), flat_get enc hn xs i hi j hj]

theorem PartC.own {α : Type} {w : World} {g n lo cap : Nat} {enc : α → List Value} (hn : ∀ x, (enc x).length = n) {xs : List α} (h : PartC w g (xs.flatMap enc) (xs.length * n)) (hlo : lo ≤ g) (hc : xs.length ≤ cap) (hm : cap ≤ maxLen) : SlO w lo n enc (.slice (some ⟨g, 0, none⟩) xs.length cap) xs :=
  ⟨h.done hn hlo hc hm, fun b hv => by simp [Value.ownBlock] at hv; subst hv; exact ⟨h.1, hlo, h.2.2.1⟩⟩

/-- a new row of zeros -/
theorem PartC.made {w : World} {base g e n len cap : Nat} {cs zs : List Value} (h : w.ownsRow base e n (.slice (some ⟨g, 0, none⟩) len cap) len zs) (hl : cs.length = len * n) : PartC w g cs 0 := by
  obtain ⟨h0, h⟩ := h
  rcases h with ⟨h, _⟩ | ⟨g', cap', cur, h1, h2, h3, h4, h5, h6, h7⟩
  · simp at h
  · simp only [Value.slice.injEq, Option.some.injEq, Addr.mk.injEq] at h1
    obtain ⟨⟨rfl, -, -⟩, -, rfl⟩ := h1
    have hlt := (Array.getElem?_eq_some_iff.1 h3).1
    refine ⟨hlt, Nat.zero_le _, fun j => by simp [World.frozen?, h3], fun j hj => ?_, fun j hj => by omega⟩
    have : j < cur.size := by rw [h6]; have := Nat.mul_le_mul_right n h4; omega
    exact ⟨cur[j], by simp [World.cell?, h3, this]⟩
theorem flat_encI (xs : List Int) : xs.flatMap encI = xs.map (Value.int .i64) := by
  induction xs with
  | nil => rfl
  | cons x xs ih => simp only [List.flatMap_cons, encI, ih, List.map_cons, List.singleton_append]
/-- what the call appended to and owns, as a list -/
theorem SlO.of_owns {α : Type} {w : World} {base e n len : Nat} {enc : α → List Value} {v : Value} {xs : List α} (hn : ∀ x, (enc x).length = n) (h : w.ownsRow base e n v len (xs.flatMap enc)) (hl : len = xs.length) : SlO w base n enc v xs := by
  subst hl
  obtain ⟨h0, h⟩ := h
  rcases h with ⟨rfl, h⟩ | ⟨g, cap, cur, rfl, hg, hh, hc, hm, hs, ht⟩
  · have : xs = [] := List.eq_nil_of_length_eq_zero h
    subst this
    exact ⟨.inl ⟨none, 0, rfl, rfl, Nat.zero_le _⟩, fun b hv => by simp [Value.ownBlock] at hv⟩
  · have hlt := (Array.getElem?_eq_some_iff.1 hh).1
    refine ⟨?_, fun b hv => by
      simp [Value.ownBlock] at hv; subst hv
      exact ⟨hlt, hg, fun j => by simp [World.frozen?, hh]⟩⟩
    by_cases e0 : xs.length = 0
    · have : xs = [] := List.eq_nil_of_length_eq_zero e0
      subst this
      exact .inl ⟨_, cap, rfl, rfl, hm⟩
    · refine .inr ⟨g, 0, cap, rfl, by omega, hc, hm, hg, hlt, fun i hi j hj => ?_⟩
      have hb : i * n + j < xs.length * n := by have := Nat.mul_le_mul_right n (show i + 1 ≤ xs.length by omega); rw [Nat.add_mul] at this; omega
      have hcur : i * n + j < cur.size := by rw [hs]; have := Nat.mul_le_mul_right n hc; omega
      rw [Nat.zero_add, ← flat_get enc hn xs i hi j hj, ← ht]
      simp [World.cell?, hh, List.getD, hb, hcur]

end Go.Proofs.Ytjibilibdjfdcaa
