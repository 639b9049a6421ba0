/- A list of the call's own that grows by appends while other things happen; copies of lists. -/
import Derived.Test.YtjibilibdjfdcaaMark
import Derived.Laws.AppendOwnNone
namespace Go.Proofs.Ytjibilibdjfdcaa
open Go.RowKit
set_option maxRecDepth 100000

/-- since world W the list at v (in block g0, or in one made after W) has become xs; of W's blocks only g0 may have changed -/
structure Acc {α : Type} (W : World) (g0 : Nat) (e : TypeId) (n : Nat) (enc : α → List Value) (w : World) (v : Value) (xs : List α) : Prop where
  own : w.ownsRow g0 e n v xs.length (xs.flatMap enc)
  fr : W.grownBy w (some g0)
  blk : ∀ b, v.ownBlock = some b → b = g0 ∨ W.heap.size ≤ b
  low : g0 ≤ W.heap.size

section
variable {α : Type} {W w w' : World} {g0 n : Nat} {e : TypeId} {enc : α → List Value} {v : Value} {xs : List α}
theorem Acc.nil (W : World) (e : TypeId) (n : Nat) (enc : α → List Value) : Acc W W.heap.size e n enc W (.slice none 0 0) ([] : List α) :=
  ⟨World.ownsRow_nil _ _ _ _, grownBy_refl _ _, fun b h => by simp [Value.ownBlock] at h, Nat.le_refl _⟩
theorem Acc.lit {w0 : World} (h : Below (w0.heap.size + 1) (w0.alloc (.cells #[] e)) W) (n : Nat) (enc : α → List Value) : Acc W w0.heap.size e n enc W (.slice (some ⟨w0.heap.size, 0, none⟩) 0 0) ([] : List α) := by
  have hs := h.size
  rw [World.size_alloc] at hs
  refine ⟨⟨by simp, .inr ⟨w0.heap.size, 0, #[], rfl, Nat.le_refl _, ?_, Nat.le_refl _, Nat.zero_le _, by simp, by simp⟩⟩, grownBy_refl _ _, fun b hb => by simp [Value.ownBlock] at hb; exact .inl hb.symm, by omega⟩
  rw [h.block _ (by omega)]; exact heap_alloc_new _ _
/-- the first row made with room -/
theorem Acc.made {w0 : World} (h : w0.ownsRow g0 e n v 0 []) (hg : v.ownBlock = some g0 ∨ v.ownBlock = none) (hl : g0 ≤ w0.heap.size) (enc : α → List Value) : Acc w0 g0 e n enc w0 v ([] : List α) := by
  refine ⟨h, grownBy_refl _ _, fun b hb => ?_, hl⟩
  rcases hg with hg | hg
  · rw [hg] at hb; injection hb with hb; exact .inl hb.symm
  · rw [hg] at hb; cases hb
theorem Acc.below (h : Acc W g0 e n enc w v xs) (hb : Below w.heap.size w w') : Acc W g0 e n enc w' v xs := by
  obtain ⟨h1, h2, h3, h4⟩ := h
  have hg : w.grownBy w' none := ⟨hb.os, hb.tape, hb.output, hb.size, fun k hk _ => hb.block k hk⟩
  refine ⟨?_, ⟨hb.os.trans h2.os, hb.tape.trans h2.tape, hb.output.trans h2.output, Nat.le_trans h2.size hb.size, fun k hk hne => (hb.block k (Nat.lt_of_lt_of_le hk h2.size)).trans (h2.block k hk hne)⟩, h3, h4⟩
  cases hv : v.ownBlock with
  | none => exact h1.kept hg (.inl hv)
  | some b => exact h1.kept hg (.inr (by rw [hv]; simp))
theorem Acc.size (h : Acc W g0 e n enc w v xs) : W.heap.size ≤ w.heap.size := h.fr.size
theorem Acc.cell (h : Acc W g0 e n enc w v xs) {b : Nat} (hb : b < W.heap.size) (hne : b ≠ g0) (o : Nat) : w.cell? ⟨b, o, none⟩ = W.cell? ⟨b, o, none⟩ :=
  World.cell?_of_block (a := ⟨b, o, none⟩) (h.fr.block b hb (fun e => hne (by injection e)))
theorem Acc.cellAt (h : Acc W g0 e n enc w v xs) {b o : Nat} {u : Value} (hb : b < W.heap.size) (hne : b ≠ g0) (hu : W.cell? ⟨b, o, none⟩ = some u) : w.cell? ⟨b, o, none⟩ = some u := (h.cell hb hne o).trans hu
theorem Acc.frozen (h : Acc W g0 e n enc w v xs) {b : Nat} (hb : b < W.heap.size) (hne : b ≠ g0) (o : Nat) : w.frozen? ⟨b, o, none⟩ = W.frozen? ⟨b, o, none⟩ :=
  World.frozen?_of_block (a := ⟨b, o, none⟩) (h.fr.block b hb (fun e => hne (by injection e)))
theorem Acc.sl {β : Type} {m lo : Nat} {enc' : β → List Value} {u : Value} {ys : List β} (h : Acc W g0 e n enc w v xs) (hs : SlA W lo m enc' u ys) (hne : ∀ b, u.ownBlock = some b → b ≠ g0) : SlA w lo m enc' u ys :=
  hs.grown h.fr fun b hb e => hne b hb (by injection e)
/-- whatever lies below g0 is as it was in W -/
theorem Acc.keep (h : Acc W g0 e n enc w v xs) : Below g0 W w :=
  ⟨h.fr.os, h.fr.tape, h.fr.output, h.fr.size, fun k hk => h.fr.block k (Nat.lt_of_lt_of_le hk h.low) (fun e => by injection e with e; omega)⟩
theorem Acc.slo (h : Acc W g0 e n enc w v xs) (hn : ∀ x, (enc x).length = n) : SlO w g0 n enc v xs := SlO.of_owns hn h.own rfl
/-- at the end -/
theorem Acc.done (h : Acc W g0 e n enc w v xs) (hn : ∀ x, (enc x).length = n) {B : Nat} {W0 : World} (hB : Below B W0 W) (hg : B ≤ g0) : Below B W0 w ∧ SlO w B n enc v xs :=
  ⟨hB.trans (h.keep.mono hg), (h.slo hn).mono hg⟩
theorem cells_new (w : World) (cs : List Value) (t : TypeId) : ∀ j u, cs[j]? = some u → (w.alloc (.cells cs.toArray t)).cell? ((⟨w.heap.size, 0, none⟩ : Addr).add j) = some u := by
  intro j u h
  rw [Addr.add_lit, Nat.zero_add, World.cell?_alloc_at _ _ _ _ rfl]; simpa using h
end

theorem wpList_pushG {α : Type} {P : Program} {ops : Array Oper} {rest : List Oper} {o : Oper} {a : Act} {Q : Exit → Act → World → Prop} (hgd : o.guard = none) (s x : Operand) (t : TypeId)
    (ho : o.op = .call { callee := .builtin .append, args := #[s, x], argTypes := #[t, t] })
    {W : World} {g0 : Nat} {e : TypeId} {n : Nat} {enc : α → List Value} (i : TypeInfo) (z : Value) (bytes : Nat) (ht : P.underlying t = some (.slice e)) (hi : P.info? e = some i) (hz : i.zero = some z)
    (hsize : i.size = n) (hby : i.bytes = bytes) (hzs : z.cells.size = n) (hsz : 0 < n) (hn : ∀ y, (enc y).length = n)
    {wA w0 : World} {v : Value} {xs : List α} (y : α) (hs : a.eval s = v) (hA : Acc W g0 e n enc wA v xs) (hB : Below wA.heap.size wA w0) (T : TypeId) (c : Nat)
    (hx : a.eval x = .slice (some ⟨w0.heap.size, 0, none⟩) 1 c) (h1 : ∀ u ∈ enc y, u.oneCell' = true) (h63 : xs.length + 1 ≤ maxLen) (hbytes : (xs.length + 1) * bytes ≤ 140737488355328)
    (h : ∀ v' w', Acc W g0 e n enc w' v' (xs ++ [y]) → (w0.alloc (.cells (enc y).toArray T)).grownBy w' v.ownBlock → (v'.ownBlock = v.ownBlock ∨ v'.ownBlock = some (w0.heap.size + 1)) → wpList P ops Q rest (a.put o.dst v') w') : wpList P ops Q (o :: rest) a (w0.alloc (.cells (enc y).toArray T)) := by
  have hA1 : Acc W g0 e n enc (w0.alloc (.cells (enc y).toArray T)) v xs := hA.below (hB.alloc hB.size _)
  refine wpList_append_own_at _ hgd s x t ho g0 e i z n bytes ht hi hz hsize hby hzs hsz v xs.length _ hs hA1.own ⟨w0.heap.size, 0, none⟩ 1 c (enc y) hx (by rw [hn]; omega) (cells_new _ _ _) h1 h63 hbytes (Nat.le_trans hA1.low hA1.size) ?_
  intro v' w' hown hgr _ hat
  refine h v' w' ⟨?_, ?_, ?_, hA1.low⟩ hgr (by rw [World.size_alloc] at hat; exact hat)
  · rw [List.flatMap_append, List.length_append]; simpa using hown
  · refine ⟨hgr.os.trans hA1.fr.os, hgr.tape.trans hA1.fr.tape, hgr.output.trans hA1.fr.output, Nat.le_trans hA1.fr.size hgr.size, fun k hk hne => ?_⟩
    rw [hgr.block k (Nat.lt_of_lt_of_le hk hA1.size) (fun he => ?_)]
    · exact hA1.fr.block k hk hne
    · rcases hA1.blk k he.symm with e1 | e1
      · exact hne (by rw [e1])
      · omega
  · intro b hb
    rcases hat with hat | hat
    · exact hA1.blk b (hat ▸ hb)
    · rw [hat] at hb; injection hb with hb; right; rw [← hb]; exact hA1.size
theorem wpList_push {α : Type} {P : Program} {ops : Array Oper} {rest : List Oper} {o : Oper} {a : Act} {Q : Exit → Act → World → Prop} (hgd : o.guard = none) (s x : Operand) (t : TypeId)
    (ho : o.op = .call { callee := .builtin .append, args := #[s, x], argTypes := #[t, t] })
    {W : World} {g0 : Nat} {e : TypeId} {n : Nat} {enc : α → List Value} (i : TypeInfo) (z : Value) (bytes : Nat) (ht : P.underlying t = some (.slice e)) (hi : P.info? e = some i) (hz : i.zero = some z)
    (hsize : i.size = n) (hby : i.bytes = bytes) (hzs : z.cells.size = n) (hsz : 0 < n) (hn : ∀ y, (enc y).length = n)
    {wA w0 : World} {v : Value} {xs : List α} (y : α) (hs : a.eval s = v) (hA : Acc W g0 e n enc wA v xs) (hB : Below wA.heap.size wA w0) (T : TypeId) (c : Nat)
    (hx : a.eval x = .slice (some ⟨w0.heap.size, 0, none⟩) 1 c) (h1 : ∀ u ∈ enc y, u.oneCell' = true) (h63 : xs.length + 1 ≤ maxLen) (hbytes : (xs.length + 1) * bytes ≤ 140737488355328)
    (h : ∀ v' w', Acc W g0 e n enc w' v' (xs ++ [y]) → wpList P ops Q rest (a.put o.dst v') w') : wpList P ops Q (o :: rest) a (w0.alloc (.cells (enc y).toArray T)) :=
  wpList_pushG hgd s x t ho i z bytes ht hi hz hsize hby hzs hsz hn y hs hA hB T c hx h1 h63 hbytes fun v' w' h2 _ _ => h v' w' h2
theorem Acc.setOther {α : Type} {W w : World} {g0 n : Nat} {e : TypeId} {enc : α → List Value} {v : Value} {xs : List α} (h : Acc W g0 e n enc w v xs) (p : Addr) (u : Value) (hp : ∀ b, v.ownBlock = some b → b ≠ p.block) (hW : W.heap.size ≤ p.block) : Acc W g0 e n enc (w.setCell p u) v xs := by
  have hg : w.grownBy (w.setCell p u) (some p.block) := ⟨rfl, rfl, rfl, by simp [World.setCell], fun k hk hne => Below.heap_setCell w p u k (by intro e; exact hne (by rw [e]))⟩
  refine ⟨h.own.kept hg ?_, ⟨h.fr.os, h.fr.tape, h.fr.output, Nat.le_trans h.fr.size hg.size, fun k hk hne => ?_⟩, h.blk, h.low⟩
  · cases hv : v.ownBlock with
    | none => exact .inl rfl
    | some b => exact .inr (by intro e; injection e with e; exact hp b hv e)
  · rw [hg.block k (Nat.lt_of_lt_of_le hk h.fr.size) (by intro e; injection e with e; omega)]
    exact h.fr.block k hk hne
theorem one_encI (y : Int) : ∀ u ∈ encI y, u.oneCell' = true := by intro u hu; simp only [encI, List.mem_singleton] at hu; subst hu; rfl

/-! ### append of a whole list -/
theorem run_append_own_zero {P : Program} {w : World} (base : Nat) (t ty e : TypeId) (i : TypeInfo) (size : Nat) (ht : P.underlying t = some (.slice e)) (hi : P.info? e = some i)
    (v : Value) (n : Nat) (xs : List Value) (hown : w.ownsRow base e size v n xs) (ad : Option Addr) (c : Nat) :
    (Builtin.append_ #[t, t] ty #[v, .slice ad 0 c]).run P w = .ok v w := by
  have h0 : ∀ a, (loadCells a 0).run P w = .ok #[] w := fun a => rfl
  rcases hown.2 with ⟨rfl, rfl⟩ | ⟨g, cap, cur, rfl, _, _, hnc, _⟩
  · cases ad <;> simp [Builtin.append_, run_underlying ht, sizeOf, typeInfo, hi, Builtin.lenOf, Builtin.firstCells, h0]
  · cases ad <;> simp [Builtin.append_, run_underlying ht, sizeOf, typeInfo, hi, Builtin.lenOf, Builtin.firstCells, hnc, storeCells, h0]
theorem wpList_pushAll {α : Type} {P : Program} {ops : Array Oper} {rest : List Oper} {o : Oper} {a : Act} {Q : Exit → Act → World → Prop} (hgd : o.guard = none) (s x : Operand) (t : TypeId)
    (ho : o.op = .call { callee := .builtin .append, args := #[s, x], argTypes := #[t, t] })
    {W : World} {g0 : Nat} {e : TypeId} {n : Nat} {enc : α → List Value} (i : TypeInfo) (z : Value) (bytes : Nat) (ht : P.underlying t = some (.slice e)) (hi : P.info? e = some i) (hz : i.zero = some z)
    (hsize : i.size = n) (hby : i.bytes = bytes) (hzs : z.cells.size = n) (hsz : 0 < n) (hn : ∀ y, (enc y).length = n)
    {w : World} {v u : Value} {xs ys : List α} (hs : a.eval s = v) (hA : Acc W g0 e n enc w v xs) {lo : Nat} (hx : a.eval x = u) (hS : SlA w lo n enc u ys) (h1 : ∀ y, ∀ u ∈ enc y, u.oneCell' = true)
    (h63 : xs.length + ys.length ≤ maxLen) (hbytes : (xs.length + ys.length) * bytes ≤ 140737488355328)
    (h : ∀ v' w', Acc W g0 e n enc w' v' (xs ++ ys) → wpList P ops Q rest (a.put o.dst v') w') : wpList P ops Q (o :: rest) a w := by
  rcases hS with ⟨ad, cap, rfl, rfl, _⟩ | ⟨b, off, cap, rfl, hp, hc, hm, _, hb, hcell⟩
  · refine wpList_plain hgd fun K hK => ?_
    have hr := run_append_own_zero (P := P) (w := w) g0 t o.type e i n ht hi v _ _ hA.own ad cap
    unfold Oper.wp execOp
    simp only [ho, resolve, invoke, builtin, Sem.run_bind, Sem.run_pure, Result.andThen_ok, List.map_toArray, List.map_cons, List.map_nil, hs, hx, hr]
    exact hK _ _ (h v w (by rw [List.append_nil]; exact hA))
  · refine wpList_append_own_at _ hgd s x t ho g0 e i z n bytes ht hi hz hsize hby hzs hsz v xs.length _ hs hA.own ⟨b, off, none⟩ ys.length cap (ys.flatMap enc) hx (flat_len enc hn ys) ?_ ?_ h63 hbytes (Nat.le_trans hA.low hA.size) ?_
    · intro j q hj
      have hjl : j < ys.length * n := by rw [← flat_len enc hn ys]; exact (List.getElem?_eq_some_iff.1 hj).1
      have hd : j / n < ys.length := Nat.div_lt_of_lt_mul (by rw [Nat.mul_comm]; exact hjl)
      have hc1 := hcell (j / n) hd (j % n) (Nat.mod_lt _ hsz)
      have hf := flat_get enc hn ys (j / n) hd (j % n) (Nat.mod_lt _ hsz)
      rw [Nat.div_add_mod'] at hf
      rw [Nat.add_assoc, Nat.div_add_mod', ← hf] at hc1
      rw [Addr.add_lit, hc1]; simp [List.getD_eq_getElem?_getD, hj]
    · intro q hq
      obtain ⟨y, _, hy⟩ := List.mem_flatMap.1 hq
      exact h1 y q hy
    intro v' w' hown hgr _ hat
    refine h v' w' ⟨?_, ?_, ?_, hA.low⟩
    · rw [List.flatMap_append, List.length_append]; exact hown
    · refine ⟨hgr.os.trans hA.fr.os, hgr.tape.trans hA.fr.tape, hgr.output.trans hA.fr.output, Nat.le_trans hA.fr.size hgr.size, fun k hk hne => ?_⟩
      rw [hgr.block k (Nat.lt_of_lt_of_le hk hA.size) (fun he => ?_)]
      · exact hA.fr.block k hk hne
      · rcases hA.blk k he.symm with e1 | e1
        · exact hne (by rw [e1])
        · omega
    · intro b' hb'
      rcases hat with hat | hat
      · exact hA.blk b' (hat ▸ hb')
      · rw [hat] at hb'; injection hb' with hb'; right; rw [← hb']; exact hA.size
end Go.Proofs.Ytjibilibdjfdcaa
