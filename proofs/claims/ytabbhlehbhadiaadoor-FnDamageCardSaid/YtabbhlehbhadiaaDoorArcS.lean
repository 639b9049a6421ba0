/- The archive's bytes read, the reference's side: LoadItems. -/
import Derived.Test.YtabbhlehbhadiaaDoorArcD
import Derived.Test.YtabbhlehbhadiaaDoorArcP
namespace Go.Proofs.YtabbhlehbhadiaaDoor
open Go.RowKit Go.Sort
set_option linter.unusedVariables false
set_option maxRecDepth 100000

theorem acc_new {α : Type} {e : TypeId} {n : Nat} (enc : α → List Value) {w W0 : World} (h : Below w.heap.size w W0) : Acc w w.heap.size e n enc (W0.alloc (.cells #[] e)) (.slice (some ⟨W0.heap.size, 0, none⟩) 0 0) ([] : List α) := by
  have hs := h.size
  have hb : Below w.heap.size w (W0.alloc (.cells #[] e)) := h.alloc hs _
  refine ⟨⟨by simp, .inr ⟨W0.heap.size, 0, #[], rfl, hs, heap_alloc_new _ _, Nat.le_refl _, Nat.zero_le _, by simp, by simp⟩⟩, ⟨hb.os, hb.tape, hb.output, hb.size, fun k hk _ => hb.block k hk⟩, fun b hb => by simp [Value.ownBlock] at hb; exact .inr (by omega), Nat.le_refl _⟩
theorem Acc.grown {α : Type} {W w w' : World} {g0 n : Nat} {e : TypeId} {enc : α → List Value} {v : Value} {xs : List α} {ub : Option Nat} (h : Acc W g0 e n enc w v xs) (hg : w.grownBy w' ub) (hne : ub ≠ v.ownBlock ∨ v.ownBlock = none) (hW : ∀ b, ub = some b → W.heap.size ≤ b) : Acc W g0 e n enc w' v xs := by
  refine ⟨h.own.kept hg ?_, ⟨hg.os.trans h.fr.os, hg.tape.trans h.fr.tape, hg.output.trans h.fr.output, Nat.le_trans h.fr.size hg.size, fun k hk hne => ?_⟩, h.blk, h.low⟩
  · rcases hne with hne | hne
    · exact .inr (fun e => hne e.symm)
    · exact .inl hne
  · rw [hg.block k (Nat.lt_of_lt_of_le hk h.fr.size) (fun e => by have := hW k e.symm; omega)]
    exact h.fr.block k hk hne
theorem acc_high {α : Type} {W w : World} {n : Nat} {e : TypeId} {enc : α → List Value} {v : Value} {xs : List α} (h : Acc W W.heap.size e n enc w v xs) : ∀ b, v.ownBlock = some b → W.heap.size ≤ b := fun b hb => by
  rcases h.blk b hb with h | h <;> omega
theorem line_headV {l : List UInt8} (h : nlO l = none) {A : Type} (stp : A → ItemD → Bool → Int × A) (a : A) : headV l = .tuple #[.int .i64 0, .int .i64 0, .int .i64 11] ∧ arcL stp a l = (11, a) := ⟨headV_none h, arcL_none h⟩
/-- the first line, for the walk: a code, or a number and a place -/
theorem head_cases {A : Type} (stp : A → ItemD → Bool → Int × A) (a : A) (l : List UInt8) : (∃ c, c ≠ 0 ∧ headV l = .tuple #[.int .i64 0, .int .i64 0, .int .i64 c] ∧ arcL stp a l = (c, a)) ∨ ∃ n p : Nat, n ≤ 40 ∧ p ≤ l.length ∧ headV l = .tuple #[.int .i64 (n : Int), .int .i64 (p : Int), .int .i64 0] ∧ arcL stp a l = arcF stp n a (l.drop p) := by
  cases h : nlO l with
  | none => exact .inl ⟨11, by decide, headV_none h, arcL_none h⟩
  | some j =>
    cases h2 : hdL (l.take j) with
    | none => exact .inl ⟨9, by decide, headV_bad h h2, arcL_bad h h2⟩
    | some n => exact .inr ⟨n, j + 1, hdL_max h2, by have := (nlO_some h).1; omega, headV_go h h2, arcL_go h h2⟩
--@WALKS
end Go.Proofs.YtabbhlehbhadiaaDoor
namespace Go.Proofs.YtabbhlehbhadiaaDoor
open Go.RowKit Go.Sort
set_option linter.unusedVariables false
set_option maxRecDepth 100000

def encBl (b : Bool) : List Value := [.bool b]
theorem one_encBl (y : Bool) : ∀ u ∈ encBl y, u.oneCell' = true := by intro u hu; simp only [encBl, List.mem_singleton] at hu; subst hu; rfl
theorem info_Bl : (Tryd.prog.info? 4).map (fun i => (i.zero, i.size, i.bytes)) = some (some (.bool false), 1, 1) := by kernel_rfl
/-- two lists of the call's own lie apart -/
def ApartO (u v : Value) : Prop := u.ownBlock ≠ v.ownBlock ∨ v.ownBlock = none
theorem own_sym {u v : Value} (h : ApartO u v) : v.ownBlock ≠ u.ownBlock ∨ u.ownBlock = none := by
  rcases h with h | h
  · exact .inl (fun e => h e.symm)
  · cases hu : u.ownBlock with
    | none => exact .inr rfl
    | some b => rw [h]; exact .inl (fun e => by cases e)
theorem own_five {u v v5 : Value} {n : Nat} (hx : v5.ownBlock = u.ownBlock ∨ v5.ownBlock = some (n + 1)) (h : ApartO u v) {w : World} (hn : w.heap.size ≤ n + 1) (hv : ∀ b, v.ownBlock = some b → b < w.heap.size) : ApartO v5 v := by
  rcases hx with hx | hx
  · unfold ApartO; rw [hx]; exact h
  · cases hb : v.ownBlock with
    | none => exact .inr hb
    | some b => exact .inl (by rw [hx, hb]; intro e; injection e with e; have := hv b hb; omega)
def ScanP (xs : List ItemD) (bs : List Bool) (c : Int) (w : World) (e : Ending) (w' : World) : Prop := ∃ u v, e = .returned (.tuple #[u, v, .int .i64 c]) ∧ Below w.heap.size w w' ∧ SlO w' w.heap.size 2 encItem u xs ∧ SlO w' w.heap.size 1 encBl v bs
theorem scanP_none {xs : List ItemD} {bs : List Bool} {c : Int} {w w' : World} (h : Below w.heap.size w w') (ho : xs = []) (ho2 : bs = []) : ScanP xs bs c w (.returned (.tuple #[.slice none 0 0, .slice none 0 0, .int .i64 c])) w' := by
  subst ho; subst ho2
  exact ⟨_, _, rfl, h, ⟨.inl ⟨none, 0, rfl, rfl, Nat.zero_le _⟩, fun g hg => by simp [Value.ownBlock] at hg⟩, .inl ⟨none, 0, rfl, rfl, Nat.zero_le _⟩, fun g hg => by simp [Value.ownBlock] at hg⟩
theorem scanP_some {xs : List ItemD} {bs : List Bool} {c : Int} {w w' : World} {u v : Value} (h : Below w.heap.size w w') (hS : SlO w' w.heap.size 2 encItem u xs) (hT : SlO w' w.heap.size 1 encBl v bs) (hc : c = 0) : ScanP xs bs c w (.returned (.tuple #[u, v, .int .i64 0])) w' := by
  subst hc; exact ⟨u, v, rfl, h, hS, hT⟩
theorem cell_of {α : Type} {w : World} {lo n : Nat} {enc : α → List Value} {ad : Option Addr} {m cap : Nat} {xs : List α} (h : SlA w lo n enc (.slice ad m cap) xs) (hm : m = xs.length) {k : Nat} (hk : k < xs.length) :
    ∃ b off, ad = some ⟨b, off, none⟩ ∧ lo ≤ b ∧ b < w.heap.size ∧ xs.length ≤ cap ∧ cap ≤ 9223372036854775807 ∧ ∀ i (hi : i < xs.length) j, j < n → w.cell? ⟨b, off + i * n + j, none⟩ = some ((enc xs[i]).getD j undef) := by
  obtain ⟨ad', cap', b, off, e, h1, h2, h3⟩ := h.uni
  injection e with e1 e2 e3
  obtain ⟨k1, k2, k3, k4, k5⟩ := h2 (by omega)
  exact ⟨b, off, e1.trans k1, k3, k2, by omega, by omega, h3⟩
end Go.Proofs.YtabbhlehbhadiaaDoor
