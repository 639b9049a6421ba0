/- The times at which it is deep enough: rows of two numbers, on both sides. -/
import Derived.Test.YtgdkaadlhpehlaaTide3
import Derived.Test.YtgdkaadlhpehlaaPush
namespace Go.Proofs.Ytgdkaadlhpehlaa
open Go.RowKit Go.Sort
set_option maxRecDepth 100000

def winS (ps : List (Int × Int)) (x : Int) (b : Bool) : List (Int × Int) :=
  if b then (match ps[ps.length - 1]? with
    | some q => if q.2 = x - 1 then ps.set (ps.length - 1) (q.1, x) else ps ++ [(x, x)]
    | none => ps ++ [(x, x)]) else ps
def winF (p : Int → Bool) (t : Int) : Nat → List (Int × Int)
  | 0 => []
  | n + 1 => winS (winF p t n) (t + n) (p (t + n))
theorem winS_no {ps : List (Int × Int)} {x : Int} : winS ps x false = ps := by simp [winS]
theorem winS_new {ps : List (Int × Int)} {x : Int} (h : ∀ q, ps[ps.length - 1]? = some q → q.2 ≠ x - 1) : winS ps x true = ps ++ [(x, x)] := by
  unfold winS
  simp only [if_true]
  cases hq : ps[ps.length - 1]? with
  | none => rfl
  | some q => simp only; rw [if_neg (h q hq)]
theorem winS_ext {ps : List (Int × Int)} {x : Int} (hp : 0 < ps.length) (h : (ps[ps.length - 1]'(by omega)).2 = x - 1) : winS ps x true = ps.set (ps.length - 1) ((ps[ps.length - 1]'(by omega)).1, x) := by
  unfold winS
  simp only [if_true]
  rw [List.getElem?_eq_getElem (show ps.length - 1 < ps.length by omega)]
  simp only; rw [if_pos h]
theorem winS_ext' {ps : List (Int × Int)} {x : Int} {n : Nat} (hn : n = ps.length) (hp : 0 < n) (h : (ps[n - 1]'(by omega)).2 = x - 1) : winS ps x true = ps.set (n - 1) ((ps[n - 1]'(by omega)).1, x) := by subst hn; exact winS_ext hp h
theorem winS_new' {ps : List (Int × Int)} {x : Int} {n : Nat} (hn : n = ps.length) (h : ∀ hp : 0 < n, (ps[n - 1]'(by omega)).2 ≠ x - 1) : winS ps x true = ps ++ [(x, x)] := by
  subst hn
  refine winS_new fun q hq => ?_
  obtain ⟨h1, h2⟩ := List.getElem?_eq_some_iff.1 hq
  rw [← h2]; exact h (by omega)
theorem winS_grow {ps : List (Int × Int)} {f x : Int} : winS (ps ++ [(f, x - 1)]) x true = ps ++ [(f, x)] := by
  have hl : (ps ++ [(f, x - 1)]).length - 1 = ps.length := by simp
  rw [winS_ext (by simp) (by simp)]
  simp [List.set_append]
theorem winS_len (ps : List (Int × Int)) (x : Int) (b : Bool) : (winS ps x b).length ≤ ps.length + 1 := by
  unfold winS; split
  · split
    · split <;> simp
    · simp
  · omega
theorem winF_len (p : Int → Bool) (t : Int) : ∀ n, (winF p t n).length ≤ n
  | 0 => by simp [winF]
  | n + 1 => by have := winS_len (winF p t n) (t + n) (p (t + n)); have := winF_len p t n; simp only [winF]; omega

/-! ### rows of two numbers, each in a block of its own -/
def rowV (g : Nat) : Value := .slice (some ⟨g, 0, none⟩) 2 2
def encG (g : Nat) : List Value := [rowV g]
theorem one_encG (y : Nat) : ∀ u ∈ encG y, u.oneCell' = true := by intro u hu; simp only [encG, List.mem_singleton] at hu; subst hu; rfl
structure WinC (w : World) (lo : Nat) (v : Value) (gs : List Nat) (ps : List (Int × Int)) : Prop where
  len : gs.length = ps.length
  up : ∀ i j, (hi : i < gs.length) → (hj : j < gs.length) → i < j → gs[i] < gs[j]
  lo : ∀ i, (h : i < gs.length) → lo ≤ gs[i] ∧ gs[i] < w.heap.size
  ne : ∀ i, (h : i < gs.length) → v.ownBlock ≠ some gs[i]
  fz : ∀ i, (h : i < gs.length) → ∀ j, w.frozen? ⟨gs[i], j, none⟩ = false
  c0 : ∀ i, (h : i < gs.length) → (h' : i < ps.length) → w.cell? ⟨gs[i], 0, none⟩ = some (.int .i64 ps[i].1)
  c1 : ∀ i, (h : i < gs.length) → (h' : i < ps.length) → w.cell? ⟨gs[i], 1, none⟩ = some (.int .i64 ps[i].2)
theorem WinC.nil (w : World) (lo : Nat) (v : Value) : WinC w lo v [] [] :=
  ⟨rfl, fun i j h => by simp at h, fun i h => by simp at h, fun i h => by simp at h, fun i h => by simp at h, fun i h => by simp at h, fun i h => by simp at h⟩
/-- each of the rows' blocks is as it was -/
theorem WinC.kept {w w' : World} {lo : Nat} {v v' : Value} {gs : List Nat} {ps : List (Int × Int)} (h : WinC w lo v gs ps) (hz : w.heap.size ≤ w'.heap.size) (hb : ∀ i, (h : i < gs.length) → w'.heap[gs[i]]? = w.heap[gs[i]]?) (hv : ∀ i, (h : i < gs.length) → v'.ownBlock ≠ some gs[i]) : WinC w' lo v' gs ps :=
  ⟨h.len, h.up, fun i hi => ⟨(h.lo i hi).1, Nat.lt_of_lt_of_le (h.lo i hi).2 hz⟩, hv, fun i hi j => by rw [World.frozen?_of_block (a := ⟨gs[i], j, none⟩) (hb i hi)]; exact h.fz i hi j,
    fun i hi hi' => by rw [World.cell?_of_block (a := ⟨gs[i], 0, none⟩) (hb i hi)]; exact h.c0 i hi hi', fun i hi hi' => by rw [World.cell?_of_block (a := ⟨gs[i], 1, none⟩) (hb i hi)]; exact h.c1 i hi hi'⟩
theorem WinC.below {w w' : World} {lo : Nat} {v : Value} {gs : List Nat} {ps : List (Int × Int)} (h : WinC w lo v gs ps) (hb : Below w.heap.size w w') : WinC w' lo v gs ps :=
  h.kept hb.size (fun i hi => hb.block _ (h.lo i hi).2) h.ne
theorem WinC.mono {w : World} {lo lo' : Nat} {v : Value} {gs : List Nat} {ps : List (Int × Int)} (h : WinC w lo v gs ps) (hl : lo' ≤ lo) : WinC w lo' v gs ps :=
  ⟨h.len, h.up, fun i hi => ⟨Nat.le_trans hl (h.lo i hi).1, (h.lo i hi).2⟩, h.ne, h.fz, h.c0, h.c1⟩
/-- one row more -/
theorem WinC.push {w wB w' : World} {lo : Nat} {v v' : Value} {gs : List Nat} {ps : List (Int × Int)} {f e : Int} {T T2 : TypeId} {C : Array Value} (h : WinC w lo v gs ps) (hl : lo ≤ w.heap.size)
    (hw : wB = (w.alloc (.cells #[.int .i64 f, .int .i64 e] T)).alloc (.cells C T2)) (hvb : ∀ b, v.ownBlock = some b → b < w.heap.size) (hg : wB.grownBy w' v.ownBlock) (hat : v'.ownBlock = v.ownBlock ∨ v'.ownBlock = some (w.heap.size + 1 + 1)) :
    WinC w' lo v' (gs ++ [w.heap.size]) (ps ++ [(f, e)]) := by
  subst hw
  have hz := hg.size
  rw [World.size_alloc, World.size_alloc] at hz
  have hold : ∀ b, b < w.heap.size → v.ownBlock ≠ some b → w'.heap[b]? = w.heap[b]? := fun b hb hne => by
    rw [hg.block b (by rw [World.size_alloc, World.size_alloc]; omega) (fun e => hne e.symm)]
    have h1 : Below w.heap.size w ((w.alloc (.cells #[.int .i64 f, .int .i64 e] T)).alloc (.cells C T2)) := ((Below.refl _ _).alloc (Nat.le_refl _) _).alloc (by simp) _
    exact h1.block b hb
  have hnew : w'.heap[w.heap.size]? = some (.cells #[.int .i64 f, .int .i64 e] T (0, 0)) := by
    rw [hg.block w.heap.size (by rw [World.size_alloc, World.size_alloc]; omega) (fun e => by have := hvb _ e.symm; omega)]
    have h1 : Below (w.heap.size + 1) (w.alloc (.cells #[.int .i64 f, .int .i64 e] T)) ((w.alloc (.cells #[.int .i64 f, .int .i64 e] T)).alloc (.cells C T2)) := (Below.refl _ _).alloc (by simp) _
    rw [h1.block _ (by omega)]; exact heap_alloc_new _ _
  have hk := h.kept (w' := w') (v' := v') (by omega) (fun i hi => hold _ (h.lo i hi).2 (h.ne i hi)) (fun i hi => by
    rcases hat with hat | hat
    · rw [hat]; exact h.ne i hi
    · rw [hat]; intro e; injection e with e; have := (h.lo i hi).2; omega)
  have hgl : ∀ i, (hi : i < (gs ++ [w.heap.size]).length) → (∃ h : i < gs.length, (gs ++ [w.heap.size])[i] = gs[i]) ∨ (i = gs.length ∧ (gs ++ [w.heap.size])[i] = w.heap.size) := fun i hi => by
    by_cases hlt : i < gs.length
    · exact .inl ⟨hlt, List.getElem_append_left hlt⟩
    · have e : i = gs.length := by simp at hi; omega
      exact .inr ⟨e, by subst e; simp⟩
  have hpl : ∀ i, (h' : i < (ps ++ [(f, e)]).length) → (∃ h : i < ps.length, (ps ++ [(f, e)])[i] = ps[i]) ∨ (i = ps.length ∧ (ps ++ [(f, e)])[i] = (f, e)) := fun i hi => by
    by_cases hlt : i < ps.length
    · exact .inl ⟨hlt, List.getElem_append_left hlt⟩
    · have e : i = ps.length := by simp at hi; omega
      exact .inr ⟨e, by subst e; simp⟩
  refine ⟨by simp [h.len], fun i j hi hj hij => ?_, fun i hi => ?_, fun i hi => ?_, fun i hi j => ?_, fun i hi hi' => ?_, fun i hi hi' => ?_⟩
  · rcases hgl j hj with ⟨hj', ej⟩ | ⟨hj', ej⟩ <;> rcases hgl i hi with ⟨hi', ei⟩ | ⟨hi', ei⟩ <;> rw [ei, ej]
    · exact h.up i j hi' hj' hij
    · omega
    · exact (h.lo i hi').2
    · omega
  · rcases hgl i hi with ⟨hi', ei⟩ | ⟨hi', ei⟩ <;> rw [ei]
    · exact hk.lo i hi'
    · exact ⟨hl, by omega⟩
  · rcases hgl i hi with ⟨hi', ei⟩ | ⟨hi', ei⟩ <;> rw [ei]
    · exact hk.ne i hi'
    · rcases hat with hat | hat
      · rw [hat]; intro e; have := hvb _ e; omega
      · rw [hat]; intro e; injection e with e; omega
  · rcases hgl i hi with ⟨hi', ei⟩ | ⟨hi', ei⟩ <;> rw [ei]
    · exact hk.fz i hi' j
    · simp [World.frozen?, hnew]
  · rcases hgl i hi with ⟨hi1, ei⟩ | ⟨hi1, ei⟩ <;> rcases hpl i hi' with ⟨hi2, ep⟩ | ⟨hi2, ep⟩ <;> rw [ei, ep]
    · exact hk.c0 i hi1 hi2
    · have := h.len; omega
    · have := h.len; omega
    · simp [World.cell?, hnew]
  · rcases hgl i hi with ⟨hi1, ei⟩ | ⟨hi1, ei⟩ <;> rcases hpl i hi' with ⟨hi2, ep⟩ | ⟨hi2, ep⟩ <;> rw [ei, ep]
    · exact hk.c1 i hi1 hi2
    · have := h.len; omega
    · have := h.len; omega
    · simp [World.cell?, hnew]
/-- the second number of one row is written over -/
theorem WinC.setTo {w : World} {lo : Nat} {v : Value} {gs : List Nat} {ps : List (Int × Int)} (h : WinC w lo v gs ps) {k : Nat} (hk : k < gs.length) (hk' : k < ps.length) (x : Int) : WinC (w.setCell ⟨gs[k], 1, none⟩ (.int .i64 x)) lo v gs (ps.set k (ps[k].1, x)) := by
  have hne : ∀ i, (hi : i < gs.length) → i ≠ k → gs[i] ≠ gs[k] := fun i hi hik e => by
    rcases Nat.lt_or_gt_of_ne hik with h1 | h1
    · have := h.up i k hi hk h1; omega
    · have := h.up k i hk hi h1; omega
  refine ⟨by simp [h.len], h.up, fun i hi => by simpa [World.setCell] using h.lo i hi, h.ne, fun i hi j => by rw [World.frozen?_setCell]; exact h.fz i hi j, fun i hi hi' => ?_, fun i hi hi' => ?_⟩
  · have hi2 : i < ps.length := by simpa using hi'
    rw [World.cell?_setCell_other w _ _ _ (fun e => by have := (Addr.mk.injEq .. ▸ e).2.1; omega), h.c0 i hi hi2]
    by_cases e : i = k
    · subst e; simp
    · rw [List.getElem_set_ne (fun e' => e e'.symm)]
  · have hi2 : i < ps.length := by simpa using hi'
    by_cases e : i = k
    · subst e; rw [World.cell?_setCell_same w _ _ (h.c1 i hi hi2)]; simp
    · rw [World.cell?_setCell_other w _ _ _ (fun e' => hne i hi e ((Addr.mk.injEq .. ▸ e').1.symm)), h.c1 i hi hi2, List.getElem_set_ne (fun e' => e e'.symm)]
end Go.Proofs.Ytgdkaadlhpehlaa
