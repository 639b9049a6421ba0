/- The source of the reference's draws: a block of three cells that only the draws turn. -/
import Derived.Test.YtjibilibdjfdcaaPush
import Derived.Test.YtjibilibdjfdcaaKept
import Derived.Test.YtjibilibdjfdcaaTInt64
namespace Go.Proofs.Ytjibilibdjfdcaa
open Go.RowKit Go.Sort
set_option maxRecDepth 100000

def encU (x : Int) : List Value := [.int .u8 x]
def U64 (x : Int) : Prop := 0 ≤ x ∧ x ≤ 18446744073709551615
theorem cell_off {w : World} {b o g j : Nat} {v u : Value} (h : w.cell? ⟨b, o, none⟩ = some v) (hne : b ≠ g ∨ o ≠ j) : (w.setCell ⟨g, j, none⟩ u).cell? ⟨b, o, none⟩ = some v := by
  rw [World.cell?_setCell_other w _ _ _ (fun hh => by have := (Addr.mk.injEq .. ▸ hh); omega)]; exact h
theorem cell_on {w : World} {g j : Nat} {v u : Value} (h : w.cell? ⟨g, j, none⟩ = some v) : (w.setCell ⟨g, j, none⟩ u).cell? ⟨g, j, none⟩ = some u := World.cell?_setCell_same w _ _ h
theorem size_put (w : World) (p : Addr) (u : Value) : (w.setCell p u).heap.size = w.heap.size := by simp [World.setCell]
/-- the source in block g: its bytes, a place (at most k), a seed -/
structure SrcC (w : World) (g : Nat) (v : Value) (bs : List Int) (p : Nat) (sd : Int) : Prop where
  lt : g < w.heap.size
  c0 : w.cell? ⟨g, 0, none⟩ = some v
  c1 : w.cell? ⟨g, 1, none⟩ = some (.int .i64 p)
  c2 : w.cell? ⟨g, 2, none⟩ = some (.int .u64 sd)
  fr : ∀ j, w.frozen? ⟨g, j, none⟩ = false
  sl : SlA w 0 1 encU v bs
  by8 : ∀ x ∈ bs, 0 ≤ x ∧ x ≤ 255
  len : bs.length ≤ 1048576
  far : 0 < bs.length → ∀ b, v.ownBlock = some b → b < g

def Src (w : World) (g k : Nat) : Prop := ∃ v bs p sd, p ≤ k ∧ SrcC w g v bs p sd
theorem SrcC.kept {w w' : World} {g : Nat} {v : Value} {bs : List Int} {p : Nat} {sd : Int} (h : SrcC w g v bs p sd) {M : Nat → Prop} (hk : Kept M w w') (hm : ∀ b, M b → g < b) : SrcC w' g v bs p sd :=
  have hg : ¬ M g := fun hh => by have := hm g hh; omega
  ⟨Nat.lt_of_lt_of_le h.lt hk.size, hk.cell h.lt hg h.c0, hk.cell h.lt hg h.c1, hk.cell h.lt hg h.c2, fun j => by rw [hk.frozen h.lt hg]; exact h.fr j,
   h.sl.kept hk fun hp b hb hh => by have := hm b hh; have := h.far hp b hb; omega, h.by8, h.len, h.far⟩
theorem Src.kept {w w' : World} {g k : Nat} (h : Src w g k) {M : Nat → Prop} (hk : Kept M w w') (hm : ∀ b, M b → g < b) : Src w' g k := by
  obtain ⟨v, bs, p, sd, h0, h⟩ := h; exact ⟨v, bs, p, sd, h0, h.kept hk hm⟩
theorem Src.below {w w' : World} {g k : Nat} (h : Src w g k) (hb : Below w.heap.size w w') : Src w' g k := h.kept (M := fun _ => False) (Kept.of hb) (fun _ h => h.elim)
theorem Src.lt {w : World} {g k : Nat} (h : Src w g k) : g < w.heap.size := by obtain ⟨_, _, _, _, _, h⟩ := h; exact h.lt
theorem Src.mono {w : World} {g k k' : Nat} (h : Src w g k) (hk : k ≤ k') : Src w g k' := by obtain ⟨v, bs, p, sd, h0, h⟩ := h; exact ⟨v, bs, p, sd, Nat.le_trans h0 hk, h⟩
/-- what a draw does: only the source has turned -/
structure Drew (g k : Nat) (w w' : World) : Prop where
  kept : Kept (fun b => b = g) w w'
  src : Src w' g k
theorem Drew.refl {w : World} {g k : Nat} (h : Src w g k) : Drew g k w w := ⟨Kept.refl _ _, h⟩
theorem Drew.trans {g k k' : Nat} {a b c : World} (h : Drew g k a b) (h' : Drew g k' b c) : Drew g k' a c := ⟨h.kept.trans h'.kept, h'.src⟩
theorem Drew.below {g k : Nat} {a b c : World} (h : Drew g k a b) (hb : Below b.heap.size b c) : Drew g k a c := ⟨h.kept.trans (Kept.of hb), h.src.below hb⟩
theorem Drew.after {g k : Nat} {a b c : World} (hb : Below a.heap.size a b) (h : Drew g k b c) : Drew g k a c := ⟨(Kept.of hb).trans h.kept, h.src⟩
theorem Drew.cell {g k : Nat} {w w' : World} (h : Drew g k w w') {b o : Nat} (hb : b < w.heap.size) (hne : b ≠ g) {v : Value} (hv : w.cell? ⟨b, o, none⟩ = some v) : w'.cell? ⟨b, o, none⟩ = some v := h.kept.cell hb hne hv
theorem Drew.size {g k : Nat} {w w' : World} (h : Drew g k w w') : w.heap.size ≤ w'.heap.size := h.kept.size
theorem Drew.frozen {g k : Nat} {w w' : World} (h : Drew g k w w') {b : Nat} (hb : b < w.heap.size) (hne : b ≠ g) (o : Nat) : w'.frozen? ⟨b, o, none⟩ = w.frozen? ⟨b, o, none⟩ := h.kept.frozen hb hne o
theorem Drew.mono {g k k' : Nat} {w w' : World} (h : Drew g k w w') (hk : k ≤ k') : Drew g k' w w' := ⟨h.kept, h.src.mono hk⟩
/-- a number that was drawn -/
def Num (g k : Nat) (P : Int → Prop) (w : World) (e : Ending) (w' : World) : Prop := ∃ x : Int, e = .returned (.int .i64 x) ∧ P x ∧ Drew g k w w'
theorem Num.mk' {g k : Nat} {P : Int → Prop} {w w' : World} {x : Int} (hx : P x) (h : Drew g k w w') : Num g k P w (.returned (.int .i64 x)) w' := ⟨x, rfl, hx, h⟩
/-! ### a block known whole -/
def Bk (w : World) (X : Nat) (T : TypeId) (cs : List Value) : Prop := w.heap[X]? = some (.cells cs.toArray T (0, 0))
theorem Bk.lt {w : World} {X : Nat} {T : TypeId} {cs : List Value} (h : Bk w X T cs) : X < w.heap.size := (Array.getElem?_eq_some_iff.1 h).1
theorem Bk.cell {w : World} {X : Nat} {T : TypeId} {cs : List Value} (h : Bk w X T cs) (i : Nat) {u : Value} (hu : cs[i]? = some u) : w.cell? ⟨X, i, none⟩ = some u := by
  unfold Bk at h
  simp [World.cell?, h, hu]
theorem Bk.fr {w : World} {X : Nat} {T : TypeId} {cs : List Value} (h : Bk w X T cs) (i : Nat) : w.frozen? ⟨X, i, none⟩ = false := by
  unfold Bk at h
  simp [World.frozen?, h]
theorem Bk.set {w : World} {X : Nat} {T : TypeId} {cs : List Value} (h : Bk w X T cs) (i : Nat) (u : Value) : Bk (w.setCell ⟨X, i, none⟩ u) X T (cs.set i u) := by
  obtain ⟨hl, h2⟩ := Array.getElem?_eq_some_iff.1 h
  unfold Bk
  simp [World.setCell, Array.getElem_modify, hl, h2]
theorem Bk.cast {w : World} {X : Nat} {T : TypeId} {cs cs' : List Value} (h : Bk w X T cs) (e : cs = cs') : Bk w X T cs' := e ▸ h
theorem Bk.new (w : World) (T : TypeId) (cs : List Value) : Bk (w.alloc (.cells cs.toArray T)) w.heap.size T cs := heap_alloc_new _ _
theorem Bk.new1 {w : World} {X : Nat} {T : TypeId} {cs : List Value} (h : X = w.heap.size) : Bk (w.alloc (.cells cs.toArray T)) X T cs := by subst h; exact Bk.new _ _ _
theorem Bk.kept {w w' : World} {X : Nat} {T : TypeId} {cs : List Value} (h : Bk w X T cs) {M : Nat → Prop} (hk : Kept M w w') (hm : ¬ M X) : Bk w' X T cs := by
  have hl := h.lt
  unfold Bk at h ⊢
  rw [hk.block X hl hm]; exact h
theorem Bk.below {w w' : World} {X : Nat} {T : TypeId} {cs : List Value} (h : Bk w X T cs) (hb : Below w.heap.size w w') : Bk w' X T cs := h.kept (M := fun _ => False) (Kept.of hb) (fun h => h)
theorem Bk.alloc {w : World} {X : Nat} {T : TypeId} {cs : List Value} (h : Bk w X T cs) (o : Obj) : Bk (w.alloc o) X T cs := h.below ((Below.refl _ _).alloc (Nat.le_refl _) _)
theorem Bk.drewN {w : World} {X : Nat} {T : TypeId} {cs : List Value} (h : Bk w X T cs) (n : Nat) : Bk (w.drewN n) X T cs := h
theorem Bk.drew {w : World} {X : Nat} {T : TypeId} {cs : List Value} (h : Bk w X T cs) : Bk w.drew X T cs := h
theorem Bk.other {w : World} {X q i : Nat} {T : TypeId} {cs : List Value} (h : Bk w X T cs) (hne : q ≠ X) (u : Value) : Bk (w.setCell ⟨q, i, none⟩ u) X T cs :=
  h.kept (M := fun b => b = q) ((Kept.refl _ w).set ⟨q, i, none⟩ u rfl) (fun e => hne e.symm)
theorem Bk.drewBy {g k : Nat} {w w' : World} {X : Nat} {T : TypeId} {cs : List Value} (hd : Drew g k w w') (hne : X ≠ g) (h : Bk w X T cs) : Bk w' X T cs := h.kept hd.kept hne
theorem Bk.viaB {w w' : World} {X : Nat} {T : TypeId} {cs : List Value} (hb : Below w.heap.size w w') (h : Bk w X T cs) : Bk w' X T cs := h.below hb
/-- only the source has turned (for regions that draw) -/
def Only (g : Nat) (w w' : World) : Prop := Kept (fun b => b = g) w w'
theorem only_of {g : Nat} {w w' : World} (h : Kept (fun b => b = g) w w') : Only g w w' := h
theorem Only.out {g : Nat} {w w' : World} (h : Only g w w') : Kept (fun b => b = g) w w' := h
theorem Only.cell {g : Nat} {w w' : World} (h : Only g w w') {X i : Nat} {T : TypeId} {cs : List Value} (hb : Bk w X T cs) (hne : X ≠ g) {u : Value} (hu : cs[i]? = some u) : w'.cell? ⟨X, i, none⟩ = some u := (hb.kept h hne).cell i hu
theorem Kept.viaO {g : Nat} {a b c : World} (k : Only g b c) (h : Kept (fun b => b = g) a b) : Kept (fun b => b = g) a c := h.trans k
theorem Kept.viaD {g k : Nat} {a b c : World} (hd : Drew g k b c) (h : Kept (fun b => b = g) a b) : Kept (fun b => b = g) a c := h.trans hd.kept
theorem Only.fr {g : Nat} {w w' : World} (h : Only g w w') {X : Nat} {T : TypeId} {cs : List Value} (hb : Bk w X T cs) (hne : X ≠ g) (i : Nat) : w'.frozen? ⟨X, i, none⟩ = false := (hb.kept h hne).fr i
/-- only the source and one cell of a block of the call's own have turned (for regions that draw and end in a store) -/
def Row1 (g X j : Nat) (T : TypeId) (cs : List Value) (W w : World) : Prop := Kept (fun b => b = g ∨ b = X) W w ∧ ∃ u, Bk w X T (cs.set j u)
section
variable {g X j : Nat} {T : TypeId} {cs : List Value} {W w w' : World}
theorem Row1.refl (h : Bk W X T cs) (hj : j < cs.length) : Row1 g X j T cs W W := ⟨Kept.refl _ _, cs[j], by rw [List.set_getElem_self]; exact h⟩
theorem Row1.alloc (h : Row1 g X j T cs W w) (o : Obj) : Row1 g X j T cs W (w.alloc o) := by obtain ⟨h1, u, h2⟩ := h; exact ⟨h1.trans (Kept.of ((Below.refl _ _).alloc (Nat.le_refl _) _)), u, h2.alloc o⟩
theorem Row1.drewN (h : Row1 g X j T cs W w) (n : Nat) : Row1 g X j T cs W (w.drewN n) := by obtain ⟨h1, u, h2⟩ := h; exact ⟨h1.trans (Kept.of (below_drewN (Below.refl _ _) _)), u, h2⟩
theorem Row1.drew (h : Row1 g X j T cs W w) : Row1 g X j T cs W w.drew := h.drewN 1
theorem Row1.store (h : Row1 g X j T cs W w) (u : Value) : Row1 g X j T cs W (w.setCell ⟨X, j, none⟩ u) := by
  obtain ⟨h1, u', h2⟩ := h
  exact ⟨h1.set ⟨X, j, none⟩ u (.inr rfl), u, by have := h2.set j u; rw [List.set_set] at this; exact this⟩
theorem Row1.by {k : Nat} (hd : Drew g k w w') (hne : X ≠ g) (h : Row1 g X j T cs W w) : Row1 g X j T cs W w' := by
  obtain ⟨h1, u, h2⟩ := h; exact ⟨h1.trans (hd.kept.mono fun b hb => .inl hb), u, h2.kept hd.kept hne⟩
theorem Row1.cell (h : Row1 g X j T cs W w) {i : Nat} (hi : j ≠ i) {v : Value} (hv : cs[i]? = some v) : w.cell? ⟨X, i, none⟩ = some v := by
  obtain ⟨h1, u, h2⟩ := h; exact h2.cell i (by rw [List.getElem?_set_ne hi]; exact hv)
theorem Row1.last (h : Row1 g X j T cs W w) (hj : j < cs.length) : ∃ u, w.cell? ⟨X, j, none⟩ = some u := by
  obtain ⟨h1, u, h2⟩ := h; exact ⟨u, h2.cell j (by simp [hj])⟩
theorem Row1.fr (h : Row1 g X j T cs W w) (i : Nat) : w.frozen? ⟨X, i, none⟩ = false := by obtain ⟨h1, u, h2⟩ := h; exact h2.fr i
theorem Row1.put (h : Row1 g X j T cs W w) (v : Value) : Bk (w.setCell ⟨X, j, none⟩ v) X T (cs.set j v) := by
  obtain ⟨h1, u', h2⟩ := h
  have := h2.set j v; rw [List.set_set] at this; exact this
theorem Row1.new (h : Row1 g X j T cs W w) {w0 : World} (h0 : Kept (fun b => b = g) w0 W) (hX : w0.heap.size ≤ X) : Kept (fun b => b = g) w0 w :=
  ⟨h.1.os.trans h0.os, h.1.tape.trans h0.tape, h.1.output.trans h0.output, Nat.le_trans h0.size h.1.size, fun k hk hn => (h.1.block k (Nat.lt_of_lt_of_le hk h0.size) (by omega)).trans (h0.block k hk hn)⟩
theorem Row1.keep (h : Row1 g X j T cs W w) {Y : Nat} {T' : TypeId} {cs' : List Value} (hb : Bk W Y T' cs') (h1 : Y ≠ g) (h2 : Y ≠ X) : Bk w Y T' cs' := hb.kept h.1 (by omega)
end
/-! ### a list of the call's own that grows while the source turns -/
theorem Kept.grown {g : Nat} {w w' : World} (h : Kept (fun b => b = g) w w') : w.grownBy w' (some g) := ⟨h.os, h.tape, h.output, h.size, fun k hk hne => h.block k hk fun e => hne (by rw [e])⟩
theorem kept_of_grown {w w' : World} {r : Option Nat} (h : w.grownBy w' r) : Kept (fun b => r = some b) w w' := ⟨h.os, h.tape, h.output, h.size, fun k hk hne => h.block k hk fun e => hne e.symm⟩
structure AccD {α : Type} (W : World) (g : Nat) (e : TypeId) (n : Nat) (enc : α → List Value) (w : World) (v : Value) (xs : List α) : Prop where
  own : w.ownsRow W.heap.size e n v xs.length (xs.flatMap enc)
  kept : Kept (fun b => b = g) W w
  lt : g < W.heap.size
section
variable {α : Type} {W w w' : World} {g n : Nat} {e : TypeId} {enc : α → List Value} {v : Value} {xs : List α}
theorem AccD.far (h : AccD W g e n enc w v xs) : ∀ b, v.ownBlock = some b → W.heap.size ≤ b := fun b hb => by
  rcases h.own.2 with ⟨rfl, _⟩ | ⟨g', cap, cur, rfl, h1, _⟩
  · cases hb
  · simp [Value.ownBlock] at hb; omega
theorem AccD.ne (h : AccD W g e n enc w v xs) : v.ownBlock = none ∨ v.ownBlock ≠ some g := by
  cases hv : v.ownBlock with
  | none => exact .inl rfl
  | some b => exact .inr fun e => by injection e with e; have := h.far b hv; have := h.lt; omega
theorem AccD.only (h : AccD W g e n enc w v xs) (hk : Kept (fun b => b = g) w w') : AccD W g e n enc w' v xs := ⟨h.own.kept hk.grown h.ne, h.kept.trans hk, h.lt⟩
theorem AccD.by {k : Nat} (hd : Drew g k w w') (h : AccD W g e n enc w v xs) : AccD W g e n enc w' v xs := h.only hd.kept
theorem AccD.below (h : AccD W g e n enc w v xs) (hb : Below w.heap.size w w') : AccD W g e n enc w' v xs := h.only (Kept.of hb)
theorem AccD.alloc (h : AccD W g e n enc w v xs) (o : Obj) : AccD W g e n enc (w.alloc o) v xs := h.below ((Below.refl _ _).alloc (Nat.le_refl _) _)
theorem AccD.nil (hk : Kept (fun b => b = g) W w) (hg : g < W.heap.size) (e : TypeId) (n : Nat) (enc : α → List Value) : AccD W g e n enc w (.slice none 0 0) ([] : List α) := ⟨World.ownsRow_nil _ _ _ _, hk, hg⟩
theorem AccD.lit (hk : Kept (fun b => b = g) W w) (hg : g < W.heap.size) (e : TypeId) (n : Nat) (enc : α → List Value) : AccD W g e n enc (w.alloc (.cells #[] e)) (.slice (some ⟨w.heap.size, 0, none⟩) 0 0) ([] : List α) :=
  ⟨⟨by simp, .inr ⟨w.heap.size, 0, #[], rfl, hk.size, heap_alloc_new _ _, Nat.le_refl _, Nat.zero_le _, by simp, by simp⟩⟩, hk.trans (Kept.of ((Below.refl _ _).alloc (Nat.le_refl _) _)), hg⟩
theorem AccD.slo (h : AccD W g e n enc w v xs) (hn : ∀ x, (enc x).length = n) : SlO w W.heap.size n enc v xs := SlO.of_owns hn h.own rfl
theorem wpList_pushD {P : Program} {ops : Array Oper} {rest : List Oper} {o : Oper} {a : Act} {Q : Exit → Act → World → Prop} (hgd : o.guard = none) (s x : Operand) (t : TypeId)
    (ho : o.op = .call { callee := .builtin .append, args := #[s, x], argTypes := #[t, t] })
    (i : TypeInfo) (z : Value) (bytes : Nat) (ht : P.underlying t = some (.slice e)) (hi : P.info? e = some i) (hz : i.zero = some z)
    (hsize : i.size = n) (hby : i.bytes = bytes) (hzs : z.cells.size = n) (hsz : 0 < n) (hn : ∀ y, (enc y).length = n)
    (y : α) (hs : a.eval s = v) (hA : AccD W g e n enc w v xs) (T : TypeId) (c : Nat)
    (hx : a.eval x = .slice (some ⟨w.heap.size, 0, none⟩) 1 c) (h1 : ∀ u ∈ enc y, u.oneCell' = true) (h63 : xs.length + 1 ≤ maxLen) (hbytes : (xs.length + 1) * bytes ≤ 140737488355328)
    (h : ∀ v' w', AccD W g e n enc w' v' (xs ++ [y]) → Kept (fun b => v.ownBlock = some b) w w' → (v'.ownBlock = v.ownBlock ∨ v'.ownBlock = some (w.heap.size + 1)) → wpList P ops Q rest (a.put o.dst v') w') : wpList P ops Q (o :: rest) a (w.alloc (.cells (enc y).toArray T)) := by
  have hA1 := hA.alloc (.cells (enc y).toArray T)
  refine wpList_append_own_at _ hgd s x t ho W.heap.size e i z n bytes ht hi hz hsize hby hzs hsz v xs.length _ hs hA1.own ⟨w.heap.size, 0, none⟩ 1 c (enc y) hx (by rw [hn]; omega) (cells_new _ _ _) h1 h63 hbytes hA1.kept.size ?_
  intro v' w' hown hgr _ hat
  have hk := kept_of_grown hgr
  refine h v' w' ⟨?_, ⟨hk.os.trans hA1.kept.os, hk.tape.trans hA1.kept.tape, hk.output.trans hA1.kept.output, Nat.le_trans hA1.kept.size hk.size, fun k hk1 hk2 => (hk.block k (Nat.lt_of_lt_of_le hk1 hA1.kept.size) fun e => by have := hA.far k e; omega).trans (hA1.kept.block k hk1 hk2)⟩, hA.lt⟩ ((Kept.of ((Below.refl _ _).alloc (Nat.le_refl _) _)).trans hk) (by rw [World.size_alloc] at hat; exact hat)
  · rw [List.flatMap_append, List.length_append]; simpa using hown
end
/-- a slice known by its form, opened -/
theorem SlA.open1 {α : Type} {w : World} {lo n len cap : Nat} {ad : Option Addr} {enc : α → List Value} {xs : List α} (h : SlA w lo n enc (.slice ad len cap) xs) (hp : 0 < xs.length) : ∃ b off, ad = some ⟨b, off, none⟩ ∧ xs.length ≤ cap ∧ cap ≤ 9223372036854775807 ∧ b < w.heap.size ∧
    ∀ i, (h : i < xs.length) → ∀ j, j < n → w.cell? ⟨b, off + i * n + j, none⟩ = some ((enc xs[i]).getD j undef) := by
  obtain ⟨ad', cap', b, off, e, hm, had, hx⟩ := h.uni
  simp only [Value.slice.injEq] at e
  obtain ⟨rfl, -, rfl⟩ := e
  obtain ⟨h1, h2, -, h4, h5⟩ := had hp
  exact ⟨b, off, h1, h4, h5, h2, hx⟩
theorem cells_uint8 : Try.prog.cellsOf 5 = 1 := by kernel_rfl
theorem rds_U8 {w : World} {cs : List Value} (h : Rds Try.prog w 5 cs) : ∃ x : Int, cs = encU x ∧ 0 ≤ x ∧ x ≤ 255 := by
  obtain ⟨x, rfl, hx⟩ := Rds.int Try.underlying5 h
  refine ⟨x, rfl, ?_⟩
  simp [Lit.wf, IntKind.min, IntKind.max, IntKind.signed, IntKind.bits] at hx; omega
theorem open_U8S {H : Type} {enc : TypeId × Value → H} {W : World} {base : Nat} {v : Value} {d : DataW H} {p : List MemPlace} (hv : Value.okWide Try.prog W .any base 78 v) (h : DataW.Trod enc Try.prog W 0 (fun _ => true) true 78 v d p) :
    ∃ xs : List Int, SlA W 0 1 encU v xs ∧ ∀ x ∈ xs, 0 ≤ x ∧ x ≤ 255 := by
  obtain ⟨a, len, cap, rfl⟩ := WideShapes.okWide_slice Try.underlying78 hv
  exact SlA.of_rds Try.underlying78 cells_uint8 (by omega) (fun es h => rds_U8 h) (rds_arg h)
end Go.Proofs.Ytjibilibdjfdcaa
