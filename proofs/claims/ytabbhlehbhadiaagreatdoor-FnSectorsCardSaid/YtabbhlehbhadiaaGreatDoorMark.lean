/- A slice of the call's own whose cells are written over; what stays as it was meanwhile. -/
import Derived.Test.YtabbhlehbhadiaaGreatDoorSl
import Derived.Maps.AppendAt
import Derived.Laws.AppendOwnNone
namespace Go.Proofs.YtabbhlehbhadiaaGreatDoor
open Go.RowKit
set_option maxRecDepth 100000

theorem grownBy_refl (w : World) (r : Option Nat) : w.grownBy w r := ⟨rfl, rfl, rfl, Nat.le_refl _, fun _ _ _ => rfl⟩
theorem grownBy_set {w w' : World} {g o : Nat} {v : Value} (h : w.grownBy w' (some g)) : w.grownBy (w'.setCell ⟨g, o, none⟩ v) (some g) := by
  refine ⟨h.os, h.tape, h.output, by simpa [World.setCell] using h.size, fun k hk hne => ?_⟩
  rw [Below.heap_setCell w' ⟨g, o, none⟩ v k (by intro e; exact hne (by rw [e]))]
  exact h.block k hk hne
theorem grownBy_below {w w' w2 : World} {r : Option Nat} (h : w.grownBy w' r) (hb : Below w.heap.size w' w2) : w.grownBy w2 r :=
  ⟨hb.os.trans h.os, hb.tape.trans h.tape, hb.output.trans h.output, Nat.le_trans h.size hb.size, fun k hk hne => (hb.block k hk).trans (h.block k hk hne)⟩

theorem grownBy_of {w w' : World} (h : Below w.heap.size w w') (r : Option Nat) : w.grownBy w' r := ⟨h.os, h.tape, h.output, h.size, fun k hk _ => h.block k hk⟩

/-- the cells of block g behind 'off' are being written over: the first c are done -/
def MarkC (w0 w : World) (g off : Nat) (cs : List Value) (c : Nat) : Prop :=
  w0.grownBy w (some g) ∧ g < w0.heap.size ∧ (∀ j, w.frozen? ⟨g, j, none⟩ = false) ∧ (∀ j, j < cs.length → ∃ u, w.cell? ⟨g, off + j, none⟩ = some u) ∧ ∀ j, j < c → w.cell? ⟨g, off + j, none⟩ = some (cs.getD j undef)
theorem MarkC.set {w0 w : World} {g off c c' : Nat} {cs : List Value} {v : Value} (h : MarkC w0 w g off cs c) (hc : c < cs.length) (hv : v = cs.getD c undef) (hc' : c' = c + 1) : MarkC w0 (w.setCell ⟨g, off + c, none⟩ v) g off cs c' := by
  subst hc'
  obtain ⟨h1, h2, h3, h4, h5⟩ := h
  obtain ⟨u, hu⟩ := h4 c hc
  refine ⟨grownBy_set h1, h2, fun j => by rw [World.frozen?_setCell]; exact h3 j, fun j hj => ?_, fun j hj => ?_⟩
  · obtain ⟨u', hu'⟩ := h4 j hj
    exact cell?_setCell_some hu'
  · by_cases e : j = c
    · subst e; rw [World.cell?_setCell_same w _ _ hu, hv]
    · rw [World.cell?_setCell_other w _ _ _ (fun hh => e (by have := (Addr.mk.injEq .. ▸ hh).2.1; omega))]; exact h5 j (by omega)
theorem MarkC.below {w0 w w' : World} {g off c : Nat} {cs : List Value} (h : MarkC w0 w g off cs c) (hb : Below w0.heap.size w w') : MarkC w0 w' g off cs c := by
  obtain ⟨h1, h2, h3, h4, h5⟩ := h
  have hc : ∀ j, w'.cell? ⟨g, j, none⟩ = w.cell? ⟨g, j, none⟩ := fun j => hb.cell (p := ⟨g, j, none⟩) h2
  have hf : ∀ j, w'.frozen? ⟨g, j, none⟩ = w.frozen? ⟨g, j, none⟩ := fun j => hb.frozen (p := ⟨g, j, none⟩) h2
  exact ⟨grownBy_below h1 hb, h2, fun j => by rw [hf, h3], fun j hj => by rw [hc]; exact h4 j hj, fun j hj => by rw [hc]; exact h5 j hj⟩
/-- what a mark leaves of another list -/
theorem SlA.grown {α : Type} {w w' : World} {r : Option Nat} {lo n : Nat} {enc : α → List Value} {v : Value} {xs : List α} (h : SlA w lo n enc v xs) (hg : w.grownBy w' r) (hr : ∀ b, v.ownBlock = some b → some b ≠ r) : SlA w' lo n enc v xs := by
  rcases h with h | ⟨b, off, cap, rfl, h2, h3, h4, h5, h6, h7⟩
  · exact .inl h
  · refine .inr ⟨b, off, cap, rfl, h2, h3, h4, h5, Nat.lt_of_lt_of_le h6 hg.size, fun i hi j hj => ?_⟩
    rw [World.cell?_of_block (a := ⟨b, off + i * n + j, none⟩) (hg.block b h6 (hr b rfl))]
    exact h7 i hi j hj
theorem SlO.grown {α : Type} {w w' : World} {r : Option Nat} {lo n : Nat} {enc : α → List Value} {v : Value} {xs : List α} (h : SlO w lo n enc v xs) (hg : w.grownBy w' r) (hr : ∀ b, v.ownBlock = some b → some b ≠ r) : SlO w' lo n enc v xs :=
  ⟨h.1.grown hg hr, fun b hv => by
    obtain ⟨h1, h2, h3⟩ := h.2 b hv
    exact ⟨Nat.lt_of_lt_of_le h1 hg.size, h2, fun j => by rw [World.frozen?_of_block (a := ⟨b, j, none⟩) (hg.block b h1 (hr b hv))]; exact h3 j⟩⟩
theorem MarkC.start {α : Type} {w : World} {lo n off b cap : Nat} {enc : α → List Value} (hn : ∀ x, (enc x).length = n) {xs ys : List α} (h : SlO w lo n enc (.slice (some ⟨b, off, none⟩) xs.length cap) xs) (hl : ys.length = xs.length) : 0 < xs.length → MarkC w w b off (ys.flatMap enc) 0 := by
  intro hp
  obtain ⟨h1, h2, h3⟩ := h.2 b rfl
  refine ⟨grownBy_refl _ _, h1, h3, fun j hj => ?_, fun j hj => by omega⟩
  rw [flat_len enc hn, hl] at hj
  rcases h.1 with ⟨_, _, _, e, _⟩ | ⟨b', off', cap', e, -, -, -, -, -, hx⟩
  · rw [e] at hp; simp at hp
  · simp only [Value.slice.injEq, Option.some.injEq, Addr.mk.injEq] at e
    obtain ⟨⟨rfl, rfl, -⟩, -, -⟩ := e
    have hn0 : 0 < n := by rcases Nat.eq_zero_or_pos n with e0 | e0; · rw [e0] at hj; simp at hj
                           · exact e0
    have := hx (j / n) (Nat.div_lt_of_lt_mul (by rw [Nat.mul_comm]; exact hj)) (j % n) (Nat.mod_lt _ hn0)
    rw [Nat.add_assoc, Nat.div_add_mod'] at this
    exact ⟨_, this⟩
theorem MarkC.own {α : Type} {w0 w : World} {g off n lo cap : Nat} {enc : α → List Value} (hn : ∀ x, (enc x).length = n) {ys : List α} (h : MarkC w0 w g off (ys.flatMap enc) (ys.length * n)) (hlo : lo ≤ g) (hc : ys.length ≤ cap) (hm : cap ≤ maxLen) : SlO w lo n enc (.slice (some ⟨g, off, none⟩) ys.length cap) ys := by
  obtain ⟨h1, h2, h3, h4, h5⟩ := h
  have hg : g < w.heap.size := Nat.lt_of_lt_of_le h2 h1.size
  refine ⟨?_, fun b hv => by simp [Value.ownBlock] at hv; subst hv; exact ⟨hg, hlo, h3⟩⟩
  by_cases e : ys.length = 0
  · have : ys = [] := List.eq_nil_of_length_eq_zero e
    subst this
    exact .inl ⟨_, cap, rfl, rfl, hm⟩
  · refine .inr ⟨g, off, cap, rfl, by omega, hc, hm, hlo, hg, fun i hi j hj => ?_⟩
    rw [Nat.add_assoc, h5 (i * n + j) (by have := Nat.mul_le_mul_right n (show i + 1 ≤ ys.length by omega); rw [Nat.add_mul] at this; omega), flat_get enc hn ys i hi j hj]
end Go.Proofs.YtabbhlehbhadiaaGreatDoor
namespace Go.Proofs.YtabbhlehbhadiaaGreatDoor
open Go.RowKit
set_option maxRecDepth 100000

/-- since world W the list at v (in block g0, or in one made after W) has become xs; of W's blocks only g0 may have changed -/
structure Acc {α : Type} (W : World) (g0 : Nat) (e : TypeId) (n : Nat) (enc : α → List Value) (w : World) (v : Value) (xs : List α) : Prop where
  own : w.ownsRow g0 e n v xs.length (xs.flatMap enc)
  fr : W.grownBy w (some g0)
  blk : ∀ b, v.ownBlock = some b → b = g0 ∨ W.heap.size ≤ b
  low : g0 ≤ W.heap.size

section
variable {α : Type} {W w w' : World} {g0 n : Nat} {e : TypeId} {enc : α → List Value} {v : Value} {xs : List α}
theorem Acc.nil (W : World) (e : TypeId) (n : Nat) (enc : α → List Value) : Acc W W.heap.size e n enc W (.slice none 0 0) ([] : List α) :=
  ⟨World.ownsRow_nil _ _ _ _, grownBy_refl _ _, fun b h => by simp [Value.ownBlock] at h, Nat.le_refl _⟩
theorem Acc.lit {w0 : World} (h : Below (w0.heap.size + 1) (w0.alloc (.cells #[] e)) W) (n : Nat) (enc : α → List Value) : Acc W w0.heap.size e n enc W (.slice (some ⟨w0.heap.size, 0, none⟩) 0 0) ([] : List α) := by
  have hs := h.size
  rw [World.size_alloc] at hs
  refine ⟨⟨by simp, .inr ⟨w0.heap.size, 0, #[], rfl, Nat.le_refl _, ?_, Nat.le_refl _, Nat.zero_le _, by simp, by simp⟩⟩, grownBy_refl _ _, fun b hb => by simp [Value.ownBlock] at hb; exact .inl hb.symm, by omega⟩
  rw [h.block _ (by omega)]; exact heap_alloc_new _ _
/-- the first row made with room -/
theorem Acc.made {w0 : World} (h : w0.ownsRow g0 e n v 0 []) (hg : v.ownBlock = some g0 ∨ v.ownBlock = none) (hl : g0 ≤ w0.heap.size) (enc : α → List Value) : Acc w0 g0 e n enc w0 v ([] : List α) := by
  refine ⟨h, grownBy_refl _ _, fun b hb => ?_, hl⟩
  rcases hg with hg | hg
  · rw [hg] at hb; injection hb with hb; exact .inl hb.symm
  · rw [hg] at hb; cases hb
theorem Acc.below (h : Acc W g0 e n enc w v xs) (hb : Below w.heap.size w w') : Acc W g0 e n enc w' v xs := by
  obtain ⟨h1, h2, h3, h4⟩ := h
  have hg : w.grownBy w' none := ⟨hb.os, hb.tape, hb.output, hb.size, fun k hk _ => hb.block k hk⟩
  refine ⟨?_, ⟨hb.os.trans h2.os, hb.tape.trans h2.tape, hb.output.trans h2.output, Nat.le_trans h2.size hb.size, fun k hk hne => (hb.block k (Nat.lt_of_lt_of_le hk h2.size)).trans (h2.block k hk hne)⟩, h3, h4⟩
  cases hv : v.ownBlock with
  | none => exact h1.kept hg (.inl hv)
  | some b => exact h1.kept hg (.inr (by rw [hv]; simp))
theorem Acc.size (h : Acc W g0 e n enc w v xs) : W.heap.size ≤ w.heap.size := h.fr.size
theorem Acc.cell (h : Acc W g0 e n enc w v xs) {b : Nat} (hb : b < W.heap.size) (hne : b ≠ g0) (o : Nat) : w.cell? ⟨b, o, none⟩ = W.cell? ⟨b, o, none⟩ :=
  World.cell?_of_block (a := ⟨b, o, none⟩) (h.fr.block b hb (fun e => hne (by injection e)))
theorem Acc.cellAt (h : Acc W g0 e n enc w v xs) {b o : Nat} {u : Value} (hb : b < W.heap.size) (hne : b ≠ g0) (hu : W.cell? ⟨b, o, none⟩ = some u) : w.cell? ⟨b, o, none⟩ = some u := (h.cell hb hne o).trans hu
theorem Acc.frozen (h : Acc W g0 e n enc w v xs) {b : Nat} (hb : b < W.heap.size) (hne : b ≠ g0) (o : Nat) : w.frozen? ⟨b, o, none⟩ = W.frozen? ⟨b, o, none⟩ :=
  World.frozen?_of_block (a := ⟨b, o, none⟩) (h.fr.block b hb (fun e => hne (by injection e)))
theorem Acc.sl {β : Type} {m lo : Nat} {enc' : β → List Value} {u : Value} {ys : List β} (h : Acc W g0 e n enc w v xs) (hs : SlA W lo m enc' u ys) (hne : ∀ b, u.ownBlock = some b → b ≠ g0) : SlA w lo m enc' u ys :=
  hs.grown h.fr fun b hb e => hne b hb (by injection e)
/-- whatever lies below g0 is as it was in W -/
theorem Acc.keep (h : Acc W g0 e n enc w v xs) : Below g0 W w :=
  ⟨h.fr.os, h.fr.tape, h.fr.output, h.fr.size, fun k hk => h.fr.block k (Nat.lt_of_lt_of_le hk h.low) (fun e => by injection e with e; omega)⟩
theorem Acc.slo (h : Acc W g0 e n enc w v xs) (hn : ∀ x, (enc x).length = n) : SlO w g0 n enc v xs := SlO.of_owns hn h.own rfl
/-- at the end -/
theorem Acc.done (h : Acc W g0 e n enc w v xs) (hn : ∀ x, (enc x).length = n) {B : Nat} {W0 : World} (hB : Below B W0 W) (hg : B ≤ g0) : Below B W0 w ∧ SlO w B n enc v xs :=
  ⟨hB.trans (h.keep.mono hg), (h.slo hn).mono hg⟩
theorem cells_new (w : World) (cs : List Value) (t : TypeId) : ∀ j u, cs[j]? = some u → (w.alloc (.cells cs.toArray t)).cell? ((⟨w.heap.size, 0, none⟩ : Addr).add j) = some u := by
  intro j u h
  rw [Addr.add_lit, Nat.zero_add, World.cell?_alloc_at _ _ _ _ rfl]; simpa using h
end

theorem wpList_pushG {α : Type} {P : Program} {ops : Array Oper} {rest : List Oper} {o : Oper} {a : Act} {Q : Exit → Act → World → Prop} (hgd : o.guard = none) (s x : Operand) (t : TypeId)
    (ho : o.op = .call { callee := .builtin .append, args := #[s, x], argTypes := #[t, t] })
    {W : World} {g0 : Nat} {e : TypeId} {n : Nat} {enc : α → List Value} (i : TypeInfo) (z : Value) (bytes : Nat) (ht : P.underlying t = some (.slice e)) (hi : P.info? e = some i) (hz : i.zero = some z)
    (hsize : i.size = n) (hby : i.bytes = bytes) (hzs : z.cells.size = n) (hsz : 0 < n) (hn : ∀ y, (enc y).length = n)
    {wA w0 : World} {v : Value} {xs : List α} (y : α) (hs : a.eval s = v) (hA : Acc W g0 e n enc wA v xs) (hB : Below wA.heap.size wA w0) (T : TypeId) (c : Nat)
    (hx : a.eval x = .slice (some ⟨w0.heap.size, 0, none⟩) 1 c) (h1 : ∀ u ∈ enc y, u.oneCell' = true) (h63 : xs.length + 1 ≤ maxLen) (hbytes : (xs.length + 1) * bytes ≤ 140737488355328)
    (h : ∀ v' w', Acc W g0 e n enc w' v' (xs ++ [y]) → (w0.alloc (.cells (enc y).toArray T)).grownBy w' v.ownBlock → (v'.ownBlock = v.ownBlock ∨ v'.ownBlock = some (w0.heap.size + 1)) → wpList P ops Q rest (a.put o.dst v') w') : wpList P ops Q (o :: rest) a (w0.alloc (.cells (enc y).toArray T)) := by
  have hA1 : Acc W g0 e n enc (w0.alloc (.cells (enc y).toArray T)) v xs := hA.below (hB.alloc hB.size _)
  refine wpList_append_own_at _ hgd s x t ho g0 e i z n bytes ht hi hz hsize hby hzs hsz v xs.length _ hs hA1.own ⟨w0.heap.size, 0, none⟩ 1 c (enc y) hx (by rw [hn]; omega) (cells_new _ _ _) h1 h63 hbytes (Nat.le_trans hA1.low hA1.size) ?_
  intro v' w' hown hgr _ hat
  refine h v' w' ⟨?_, ?_, ?_, hA1.low⟩ hgr (by rw [World.size_alloc] at hat; exact hat)
  · rw [List.flatMap_append, List.length_append]; simpa using hown
  · refine ⟨hgr.os.trans hA1.fr.os, hgr.tape.trans hA1.fr.tape, hgr.output.trans hA1.fr.output, Nat.le_trans hA1.fr.size hgr.size, fun k hk hne => ?_⟩
    rw [hgr.block k (Nat.lt_of_lt_of_le hk hA1.size) (fun he => ?_)]
    · exact hA1.fr.block k hk hne
    · rcases hA1.blk k he.symm with e1 | e1
      · exact hne (by rw [e1])
      · omega
  · intro b hb
    rcases hat with hat | hat
    · exact hA1.blk b (hat ▸ hb)
    · rw [hat] at hb; injection hb with hb; right; rw [← hb]; exact hA1.size
theorem wpList_push {α : Type} {P : Program} {ops : Array Oper} {rest : List Oper} {o : Oper} {a : Act} {Q : Exit → Act → World → Prop} (hgd : o.guard = none) (s x : Operand) (t : TypeId)
    (ho : o.op = .call { callee := .builtin .append, args := #[s, x], argTypes := #[t, t] })
    {W : World} {g0 : Nat} {e : TypeId} {n : Nat} {enc : α → List Value} (i : TypeInfo) (z : Value) (bytes : Nat) (ht : P.underlying t = some (.slice e)) (hi : P.info? e = some i) (hz : i.zero = some z)
    (hsize : i.size = n) (hby : i.bytes = bytes) (hzs : z.cells.size = n) (hsz : 0 < n) (hn : ∀ y, (enc y).length = n)
    {wA w0 : World} {v : Value} {xs : List α} (y : α) (hs : a.eval s = v) (hA : Acc W g0 e n enc wA v xs) (hB : Below wA.heap.size wA w0) (T : TypeId) (c : Nat)
    (hx : a.eval x = .slice (some ⟨w0.heap.size, 0, none⟩) 1 c) (h1 : ∀ u ∈ enc y, u.oneCell' = true) (h63 : xs.length + 1 ≤ maxLen) (hbytes : (xs.length + 1) * bytes ≤ 140737488355328)
    (h : ∀ v' w', Acc W g0 e n enc w' v' (xs ++ [y]) → wpList P ops Q rest (a.put o.dst v') w') : wpList P ops Q (o :: rest) a (w0.alloc (.cells (enc y).toArray T)) :=
  wpList_pushG hgd s x t ho i z bytes ht hi hz hsize hby hzs hsz hn y hs hA hB T c hx h1 h63 hbytes fun v' w' h2 _ _ => h v' w' h2
theorem Acc.setOther {α : Type} {W w : World} {g0 n : Nat} {e : TypeId} {enc : α → List Value} {v : Value} {xs : List α} (h : Acc W g0 e n enc w v xs) (p : Addr) (u : Value) (hp : ∀ b, v.ownBlock = some b → b ≠ p.block) (hW : W.heap.size ≤ p.block) : Acc W g0 e n enc (w.setCell p u) v xs := by
  have hg : w.grownBy (w.setCell p u) (some p.block) := ⟨rfl, rfl, rfl, by simp [World.setCell], fun k hk hne => Below.heap_setCell w p u k (by intro e; exact hne (by rw [e]))⟩
  refine ⟨h.own.kept hg ?_, ⟨h.fr.os, h.fr.tape, h.fr.output, Nat.le_trans h.fr.size hg.size, fun k hk hne => ?_⟩, h.blk, h.low⟩
  · cases hv : v.ownBlock with
    | none => exact .inl rfl
    | some b => exact .inr (by intro e; injection e with e; exact hp b hv e)
  · rw [hg.block k (Nat.lt_of_lt_of_le hk h.fr.size) (by intro e; injection e with e; omega)]
    exact h.fr.block k hk hne
theorem one_encI (y : Int) : ∀ u ∈ encI y, u.oneCell' = true := by intro u hu; simp only [encI, List.mem_singleton] at hu; subst hu; rfl

/-! ### append of a whole list -/
theorem run_append_own_zero {P : Program} {w : World} (base : Nat) (t ty e : TypeId) (i : TypeInfo) (size : Nat) (ht : P.underlying t = some (.slice e)) (hi : P.info? e = some i)
    (v : Value) (n : Nat) (xs : List Value) (hown : w.ownsRow base e size v n xs) (ad : Option Addr) (c : Nat) :
    (Builtin.append_ #[t, t] ty #[v, .slice ad 0 c]).run P w = .ok v w := by
  have h0 : ∀ a, (loadCells a 0).run P w = .ok #[] w := fun a => rfl
  rcases hown.2 with ⟨rfl, rfl⟩ | ⟨g, cap, cur, rfl, _, _, hnc, _⟩
  · cases ad <;> simp [Builtin.append_, run_underlying ht, sizeOf, typeInfo, hi, Builtin.lenOf, Builtin.firstCells, h0]
  · cases ad <;> simp [Builtin.append_, run_underlying ht, sizeOf, typeInfo, hi, Builtin.lenOf, Builtin.firstCells, hnc, storeCells, h0]
theorem wpList_pushAll {α : Type} {P : Program} {ops : Array Oper} {rest : List Oper} {o : Oper} {a : Act} {Q : Exit → Act → World → Prop} (hgd : o.guard = none) (s x : Operand) (t : TypeId)
    (ho : o.op = .call { callee := .builtin .append, args := #[s, x], argTypes := #[t, t] })
    {W : World} {g0 : Nat} {e : TypeId} {n : Nat} {enc : α → List Value} (i : TypeInfo) (z : Value) (bytes : Nat) (ht : P.underlying t = some (.slice e)) (hi : P.info? e = some i) (hz : i.zero = some z)
    (hsize : i.size = n) (hby : i.bytes = bytes) (hzs : z.cells.size = n) (hsz : 0 < n) (hn : ∀ y, (enc y).length = n)
    {w : World} {v u : Value} {xs ys : List α} (hs : a.eval s = v) (hA : Acc W g0 e n enc w v xs) {lo : Nat} (hx : a.eval x = u) (hS : SlA w lo n enc u ys) (h1 : ∀ y, ∀ u ∈ enc y, u.oneCell' = true)
    (h63 : xs.length + ys.length ≤ maxLen) (hbytes : (xs.length + ys.length) * bytes ≤ 140737488355328)
    (h : ∀ v' w', Acc W g0 e n enc w' v' (xs ++ ys) → wpList P ops Q rest (a.put o.dst v') w') : wpList P ops Q (o :: rest) a w := by
  rcases hS with ⟨ad, cap, rfl, rfl, _⟩ | ⟨b, off, cap, rfl, hp, hc, hm, _, hb, hcell⟩
  · refine wpList_plain hgd fun K hK => ?_
    have hr := run_append_own_zero (P := P) (w := w) g0 t o.type e i n ht hi v _ _ hA.own ad cap
    unfold Oper.wp execOp
    simp only [ho, resolve, invoke, builtin, Sem.run_bind, Sem.run_pure, Result.andThen_ok, List.map_toArray, List.map_cons, List.map_nil, hs, hx, hr]
    exact hK _ _ (h v w (by rw [List.append_nil]; exact hA))
  · refine wpList_append_own_at _ hgd s x t ho g0 e i z n bytes ht hi hz hsize hby hzs hsz v xs.length _ hs hA.own ⟨b, off, none⟩ ys.length cap (ys.flatMap enc) hx (flat_len enc hn ys) ?_ ?_ h63 hbytes (Nat.le_trans hA.low hA.size) ?_
    · intro j q hj
      have hjl : j < ys.length * n := by rw [← flat_len enc hn ys]; exact (List.getElem?_eq_some_iff.1 hj).1
      have hd : j / n < ys.length := Nat.div_lt_of_lt_mul (by rw [Nat.mul_comm]; exact hjl)
      have hc1 := hcell (j / n) hd (j % n) (Nat.mod_lt _ hsz)
      have hf := flat_get enc hn ys (j / n) hd (j % n) (Nat.mod_lt _ hsz)
      rw [Nat.div_add_mod'] at hf
      rw [Nat.add_assoc, Nat.div_add_mod', ← hf] at hc1
      rw [Addr.add_lit, hc1]; simp [List.getD_eq_getElem?_getD, hj]
    · intro q hq
      obtain ⟨y, _, hy⟩ := List.mem_flatMap.1 hq
      exact h1 y q hy
    intro v' w' hown hgr _ hat
    refine h v' w' ⟨?_, ?_, ?_, hA.low⟩
    · rw [List.flatMap_append, List.length_append]; exact hown
    · refine ⟨hgr.os.trans hA.fr.os, hgr.tape.trans hA.fr.tape, hgr.output.trans hA.fr.output, Nat.le_trans hA.fr.size hgr.size, fun k hk hne => ?_⟩
      rw [hgr.block k (Nat.lt_of_lt_of_le hk hA.size) (fun he => ?_)]
      · exact hA.fr.block k hk hne
      · rcases hA.blk k he.symm with e1 | e1
        · exact hne (by rw [e1])
        · omega
    · intro b' hb'
      rcases hat with hat | hat
      · exact hA.blk b' (hat ▸ hb')
      · rw [hat] at hb'; injection hb' with hb'; right; rw [← hb']; exact hA.size
end Go.Proofs.YtabbhlehbhadiaaGreatDoor
namespace Go.Proofs.YtabbhlehbhadiaaGreatDoor
open Go.RowKit Go.Sort
set_option maxRecDepth 100000
theorem c_clone_int64 (v : Value) (xs : List Int) (w : World) (h : SlA w 0 1 encI v xs) (hl : xs.length ≤ 1048576) :
    Calls Tryz.prog 44 #[v] w fun e w' => ∃ u, e = .returned u ∧ Below w.heap.size w w' ∧ SlO w' w.heap.size 1 encI u xs := by
  obtain ⟨i0, hi, iz0, iz1, iz2⟩ := info_parts info_Int64
  have h' := h
  obtain ⟨ad, cap, bk, off, rfl, hm, -, -⟩ := h.uni
  go_enter Tryz.func44, Tryz.ntmps44
  go_wp2_with (at_make; refine (wpList_make_own _ rfl _ _ 24 rfl w.heap.size 2 i0 _ 1 Tryz.underlying24 hi iz0 iz1 _ _ _ xs.length rfl rfl rfl (by rw [iz2]; omega) (by unfold maxLen; omega) (Nat.le_refl _) ?_))
  intro w1 hown hgr
  have HB : Below w.heap.size w w1 := (Below.refl _ _).grown hgr (Nat.le_refl _) (fun k hk => by cases hk)
  have HA := hid (Acc.made hown (.inl rfl) HB.size encI)
  have hS : SlA w1 0 1 encI _ xs := h'.at HB
  clear hown hgr h'
  go_wp2_with (at_builtin; refine wpList_pushAll rfl (.tmp 5) (.tmp 6) 24 rfl i0 (.int .i64 0) 8 Tryz.underlying24 hi iz0 iz1 iz2 rfl (by decide) (fun _ => rfl) rfl HA.out rfl hS one_encI (by unfold maxLen; simp; omega) (by simp; omega) ?_; intro v1 w1 hA1)
  go_ret
  have := hA1.done (fun _ => rfl) HB (Nat.le_refl _)
  exact ⟨_, rfl, this.1, by simpa using this.2⟩
end Go.Proofs.YtabbhlehbhadiaaGreatDoor
