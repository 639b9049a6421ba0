/- The reference's search for voyages: its block, what looks at an order. -/
import Derived.Test.YtmolcfagmiecjaaSeekF
namespace Go.Proofs.Ytmolcfagmiecjaa
open Go.RowKit Go.Sort
set_option maxRecDepth 100000

/-! ### a block known whole -/
def Blk (w : World) (X : Nat) (T : TypeId) (cs : List Value) : Prop := w.heap[X]? = some (.cells cs.toArray T (0, 0))
theorem Blk.lt {w : World} {X : Nat} {T : TypeId} {cs : List Value} (h : Blk w X T cs) : X < w.heap.size := (Array.getElem?_eq_some_iff.1 h).1
theorem Blk.cell {w : World} {X : Nat} {T : TypeId} {cs : List Value} (h : Blk w X T cs) (i : Nat) {u : Value} (hu : cs[i]? = some u) : w.cell? ⟨X, i, none⟩ = some u := by
  unfold Blk at h
  simp [World.cell?, h, hu]
theorem Blk.fr {w : World} {X : Nat} {T : TypeId} {cs : List Value} (h : Blk w X T cs) (i : Nat) : w.frozen? ⟨X, i, none⟩ = false := by
  unfold Blk at h
  simp [World.frozen?, h]
theorem Blk.set {w : World} {X : Nat} {T : TypeId} {cs : List Value} (h : Blk w X T cs) (i : Nat) (u : Value) : Blk (w.setCell ⟨X, i, none⟩ u) X T (cs.set i u) := by
  obtain ⟨hl, h2⟩ := Array.getElem?_eq_some_iff.1 h
  unfold Blk
  simp [World.setCell, Array.getElem_modify, hl, h2]
theorem Blk.grown {w w' : World} {X : Nat} {T : TypeId} {cs : List Value} (h : Blk w X T cs) {r : Option Nat} (hg : w.grownBy w' r) (hr : r ≠ some X) : Blk w' X T cs := by
  have hl := h.lt
  unfold Blk at h ⊢
  rw [hg.block X hl (fun e => hr e.symm)]; exact h
theorem grown_setX {w : World} (X i : Nat) (u : Value) : w.grownBy (w.setCell ⟨X, i, none⟩ u) (some X) := grownBy_set (grownBy_refl _ _)

/-! ### the state of the search -/
structure SpA where
  found : Bool
  count : Int
  best : List Int
structure XS (B X bs : Nat) (x y t bq mode : Int) (lv : Value) (w : World) (os : List Int) (cs : List CallD) (l : Int) (A : SpA) (nodes : Int) (vO vC vB : Value) (least : Int) : Prop where
  blk : Blk w X 110 [.pointer (some ⟨bs, 0, none⟩), .int .i64 x, .int .i64 y, lv, .int .i64 t, .int .i64 mode, vO, vC, .int .i64 l, .bool A.found, .int .i64 A.count, vB, .int .i64 least, .int .i64 nodes, .int .i64 bq]
  ord : w.ownsRow B 2 1 vO os.length (os.flatMap encI)
  calls : w.ownsRow B 42 4 vC cs.length (cs.flatMap encCall)
  best : SlO w B 1 encI vB A.best
  sep : ∀ b, vB.ownBlock = some b → b ≠ X ∧ vO.ownBlock ≠ some b ∧ vC.ownBlock ≠ some b
theorem own_blk {w : World} {B e n len : Nat} {v : Value} {xs : List Value} (h : w.ownsRow B e n v len xs) {b : Nat} (hb : v.ownBlock = some b) : ∃ cur, w.heap[b]? = some (.cells cur e (0, 0)) ∧ B ≤ b := by
  rcases h.2 with ⟨rfl, -⟩ | ⟨g, cap, cur, rfl, h1, h2, -⟩
  · cases hb
  · simp [Value.ownBlock] at hb; subst hb; exact ⟨cur, h2, h1⟩
theorem own_apart {w : World} {B e n len X T : Nat} {v : Value} {xs cs : List Value} (h : w.ownsRow B e n v len xs) (hx : Blk w X T cs) (hne : e ≠ T) : v.ownBlock ≠ some X := fun hb => by
  obtain ⟨cur, h1, -⟩ := own_blk h hb
  unfold Blk at hx
  rw [h1] at hx; simp at hx; exact hne hx.2
theorem own_two {w : World} {B e n len B' e' n' len' : Nat} {v v' : Value} {xs xs' : List Value} (h : w.ownsRow B e n v len xs) (h' : w.ownsRow B' e' n' v' len' xs') (hne : e ≠ e') : v.ownBlock = none ∨ v.ownBlock ≠ v'.ownBlock := by
  cases hb : v.ownBlock with
  | none => exact .inl rfl
  | some b =>
    refine .inr fun e2 => ?_
    obtain ⟨cur, h1, -⟩ := own_blk h hb
    obtain ⟨cur', h2, -⟩ := own_blk h' e2.symm
    rw [h1] at h2; simp at h2; exact hne h2.2
section
variable {B X bs : Nat} {x y t bq mode : Int} {lv : Value} {w w' : World} {os : List Int} {cs : List CallD} {l : Int} {A : SpA} {nodes : Int} {vO vC vB : Value} {least : Int}
theorem XS.below (h : XS B X bs x y t bq mode lv w os cs l A nodes vO vC vB least) (hb : Below w.heap.size w w') : XS B X bs x y t bq mode lv w' os cs l A nodes vO vC vB least := by
  have hg : w.grownBy w' none := ⟨hb.os, hb.tape, hb.output, hb.size, fun k hk _ => hb.block k hk⟩
  exact ⟨h.blk.grown hg (by simp), h.ord.kept hg (by cases vO.ownBlock <;> simp), h.calls.kept hg (by cases vC.ownBlock <;> simp), h.best.below hb (Nat.le_refl _), h.sep⟩
theorem XS.notO (h : XS B X bs x y t bq mode lv w os cs l A nodes vO vC vB least) : vO.ownBlock ≠ some X := own_apart h.ord h.blk (by decide)
theorem XS.notC (h : XS B X bs x y t bq mode lv w os cs l A nodes vO vC vB least) : vC.ownBlock ≠ some X := own_apart h.calls h.blk (by decide)
theorem XS.two (h : XS B X bs x y t bq mode lv w os cs l A nodes vO vC vB least) : vO.ownBlock = none ∨ vO.ownBlock ≠ vC.ownBlock := own_two h.ord h.calls (by decide)
/-- a store into the search's own block, which leaves the three lists where they are -/
theorem XS.setX {A' : SpA} {l' nodes' least' : Int} (h : XS B X bs x y t bq mode lv w os cs l A nodes vO vC vB least) (i : Nat) (u : Value)
    (hs : [Value.pointer (some ⟨bs, 0, none⟩), .int .i64 x, .int .i64 y, lv, .int .i64 t, .int .i64 mode, vO, vC, .int .i64 l, .bool A.found, .int .i64 A.count, vB, .int .i64 least, .int .i64 nodes, .int .i64 bq].set i u = [Value.pointer (some ⟨bs, 0, none⟩), .int .i64 x, .int .i64 y, lv, .int .i64 t, .int .i64 mode, vO, vC, .int .i64 l', .bool A'.found, .int .i64 A'.count, vB, .int .i64 least', .int .i64 nodes', .int .i64 bq]) (hb : A'.best = A.best) :
    XS B X bs x y t bq mode lv (w.setCell ⟨X, i, none⟩ u) os cs l' A' nodes' vO vC vB least' := by
  have hg := grown_setX (w := w) X i u
  refine ⟨by rw [← hs]; exact h.blk.set i u, h.ord.kept hg (.inr h.notO), h.calls.kept hg (.inr h.notC), by rw [hb]; exact h.best.grown hg fun b hb e => (h.sep b hb).1 (by injection e), h.sep⟩
/-- a new best -/
theorem XS.setB {vB' : Value} {bo : List Int} (h : XS B X bs x y t bq mode lv w os cs l A nodes vO vC vB least) (hB : SlO w B 1 encI vB' bo) (hs : ∀ b, vB'.ownBlock = some b → b ≠ X ∧ vO.ownBlock ≠ some b ∧ vC.ownBlock ≠ some b) :
    XS B X bs x y t bq mode lv (w.setCell ⟨X, 11, none⟩ vB') os cs l { A with best := bo } nodes vO vC vB' least := by
  have hg := grown_setX (w := w) X 11 vB'
  exact ⟨h.blk.set 11 vB', h.ord.kept hg (.inr h.notO), h.calls.kept hg (.inr h.notC), hB.grown hg fun b hb e => (hs b hb).1 (by injection e), hs⟩
/-- another order -/
theorem XS.setO {vO' : Value} {w1 : World} {os' : List Int} (h : XS B X bs x y t bq mode lv w os cs l A nodes vO vC vB least) (hg : w.grownBy w1 vO.ownBlock) (hn : vO'.ownBlock = vO.ownBlock ∨ (∃ b, vO'.ownBlock = some b ∧ w.heap.size ≤ b) ∨ vO'.ownBlock = none) (hO : w1.ownsRow B 2 1 vO' os'.length (os'.flatMap encI)) :
    XS B X bs x y t bq mode lv (w1.setCell ⟨X, 6, none⟩ vO') os' cs l A nodes vO' vC vB least := by
  have hb1 := h.blk.grown hg h.notO
  have hC1 := h.calls.kept hg (h.two.elim (fun e => by rw [e]; cases vC.ownBlock <;> simp) (fun e => .inr fun e2 => e e2.symm))
  have hB1 := h.best.grown hg fun b hb e => (h.sep b hb).2.1 e.symm
  have hg2 := grown_setX (w := w1) X 6 vO'
  refine ⟨hb1.set 6 vO', hO.kept hg2 (.inr (own_apart hO hb1 (by decide))), hC1.kept hg2 (.inr (own_apart hC1 hb1 (by decide))), hB1.grown hg2 fun b hb e => (h.sep b hb).1 (by injection e), fun b hb => ⟨(h.sep b hb).1, fun e => ?_, (h.sep b hb).2.2⟩⟩
  rcases hn with hn | ⟨b', hn, hl⟩ | hn
  · exact (h.sep b hb).2.1 (hn ▸ e)
  · rw [hn] at e; injection e with e; have := (h.best.2 b hb).1; omega
  · rw [hn] at e; cases e
/-- other calls -/
theorem XS.setC {vC' : Value} {w1 : World} {cs' : List CallD} (h : XS B X bs x y t bq mode lv w os cs l A nodes vO vC vB least) (hg : w.grownBy w1 vC.ownBlock) (hn : vC'.ownBlock = vC.ownBlock ∨ (∃ b, vC'.ownBlock = some b ∧ w.heap.size ≤ b) ∨ vC'.ownBlock = none) (hO : w1.ownsRow B 42 4 vC' cs'.length (cs'.flatMap encCall)) :
    XS B X bs x y t bq mode lv (w1.setCell ⟨X, 7, none⟩ vC') os cs' l A nodes vO vC' vB least := by
  have hb1 := h.blk.grown hg h.notC
  have hO1 := h.ord.kept hg h.two
  have hB1 := h.best.grown hg fun b hb e => (h.sep b hb).2.2 e.symm
  have hg2 := grown_setX (w := w1) X 7 vC'
  refine ⟨hb1.set 7 vC', hO1.kept hg2 (.inr (own_apart hO1 hb1 (by decide))), hO.kept hg2 (.inr (own_apart hO hb1 (by decide))), hB1.grown hg2 fun b hb e => (h.sep b hb).1 (by injection e), fun b hb => ⟨(h.sep b hb).1, (h.sep b hb).2.1, fun e => ?_⟩⟩
  rcases hn with hn | ⟨b', hn, hl⟩ | hn
  · exact (h.sep b hb).2.2 (hn ▸ e)
  · rw [hn] at e; injection e with e; have := (h.best.2 b hb).1; omega
  · rw [hn] at e; cases e
theorem XS.slO (h : XS B X bs x y t bq mode lv w os cs l A nodes vO vC vB least) : SlO w B 1 encI vO os := SlO.of_owns (fun _ => rfl) h.ord rfl
theorem XS.slC (h : XS B X bs x y t bq mode lv w os cs l A nodes vO vC vB least) : SlO w B 4 encCall vC cs := SlO.of_owns (fun _ => rfl) h.calls rfl
end
/-- a row cut at its end -/
theorem owns_cut {w : World} {B e n : Nat} {v : Value} {α : Type} {enc : α → List Value} (hn : ∀ z, (enc z).length = n) {xs : List α} {z : α} {ad : Option Addr} {cap : Nat} (h : w.ownsRow B e n (.slice ad (xs.length + 1) cap) (xs.length + 1) ((xs ++ [z]).flatMap enc)) : w.ownsRow B e n (.slice ad xs.length cap) xs.length (xs.flatMap enc) := by
  obtain ⟨h1, h2⟩ := h
  refine ⟨flat_len enc hn xs, ?_⟩
  rcases h2 with ⟨e1, e2⟩ | ⟨g, cap', cur, e1, h3, h4, h5, h6, h7, h8⟩
  · omega
  · injection e1 with k1 k2 k3
    subst k1; subst k3
    refine .inr ⟨g, cap, cur, rfl, h3, h4, by omega, h6, h7, ?_⟩
    have := congrArg (List.take (xs.length * n)) h8
    rw [List.take_take, Nat.min_eq_left (Nat.mul_le_mul_right n (by omega)), List.flatMap_append, List.take_left' (flat_len enc hn xs)] at this
    exact this

/-! ### what the reference makes of an order -/
def takeF (mode : Int) (m : Nat) (A : SpA) (os : List Int) : SpA × Bool :=
  if mode = 4 then (if A.found = false ∨ A.best.length < os.length then (⟨true, A.count, os⟩, true) else (A, true))
  else if os.length = m then (if A.found = false then (⟨true, wrap64 (A.count + 1), os⟩, mode != 1) else ({ A with count := wrap64 (A.count + 1) }, mode != 1))
  else (A, true)
end Go.Proofs.Ytmolcfagmiecjaa
