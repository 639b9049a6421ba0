/- What the reading of an argument tells of its cells: one predicate over the table of types, by recursion, and its opened forms. -/
import Derived.Test.YtjibilibdjfdcaaBase
import Derived.ProofKit
import Derived.OpenShut
import Derived.ShutString
import Derived.ChangeOld
import Derived.Below
import Derived.Lib.SmallJoins
namespace Go.Proofs.Ytjibilibdjfdcaa
open Go.RowKit Go.ChangeShapes Go.WideShapes Go.ChangeAt

def Reads (P : Program) (w : World) : Nat → TypeId → List Value → Prop
  | 0, _, _ => False
  | n + 1, T, cs => match P.underlying T with
    | some .bool => ∃ b, cs = [.bool b]
    | some (.int k) => ∃ x, cs = [.int k x] ∧ (Lit.int k x).wf = true
    | some .string => ∃ s : ByteArray, cs = [.string s] ∧ s.size ≤ maxLen
    | some (.slice e) => cs = [.slice none 0 0] ∨ ∃ a len cap, cs = [.slice (some a) len cap] ∧ len ≤ cap ∧ cap ≤ maxLen ∧
        ∀ i, i < len → ∃ es : List Value, es.length = P.cellsOf e ∧ (∀ j, j < es.length → w.cell? ((a.add (i * P.cellsOf e)).add j) = some (es.getD j undef)) ∧ Reads P w n e es
    | some (.struct fs) => cs.length = P.cellsOf T ∧ ∀ f ∈ fs.toList, Reads P w n f.type ((cs.drop f.offset).take (P.cellsOf f.type))
    | _ => True

theorem mapM_all {α β : Type} (f : α → Option β) : ∀ (l : List α) (ys : List β), l.mapM f = some ys → ∀ x ∈ l, ∃ y, f x = some y
  | [], _, _, x, hx => by cases hx
  | a :: l, ys, h, x, hx => by
    rw [List.mapM_cons] at h
    cases ha : f a with
    | none => rw [ha] at h; simp at h
    | some y =>
      rw [ha] at h
      cases hl : l.mapM f with
      | none => rw [hl] at h; simp at h
      | some zs =>
        cases hx with
        | head => exact ⟨y, ha⟩
        | tail _ hm => exact mapM_all f l zs hl x hm

theorem mapM_len {α β : Type} (f : α → Option β) : ∀ (l : List α) (ys : List β), l.mapM f = some ys → ys.length = l.length
  | [], ys, h => by simp at h; subst h; rfl
  | a :: l, ys, h => by
    rw [List.mapM_cons] at h
    cases ha : f a with
    | none => rw [ha] at h; simp at h
    | some y =>
      rw [ha] at h
      cases hl : l.mapM f with
      | none => rw [hl] at h; simp at h
      | some zs => rw [hl] at h; simp at h; subst h; simp [mapM_len f l zs hl]

theorem mapM_get {α β : Type} (f : α → Option β) : ∀ (l : List α) (ys : List β), l.mapM f = some ys → ∀ (j : Nat) (x : α), l[j]? = some x → ∃ y, ys[j]? = some y ∧ f x = some y
  | [], _, _, j, x, hx => by simp at hx
  | a :: l, ys, h, j, x, hx => by
    rw [List.mapM_cons] at h
    cases ha : f a with
    | none => rw [ha] at h; simp at h
    | some y =>
      rw [ha] at h
      cases hl : l.mapM f with
      | none => rw [hl] at h; simp at h
      | some zs =>
        rw [hl] at h; simp at h; subst h
        cases j with
        | zero => simp at hx; subst hx; exact ⟨y, rfl, ha⟩
        | succ j => simpa using mapM_get f l zs hl j x (by simpa using hx)

theorem cells_get {w : World} {base : Nat} {a : Addr} {n : Nat} {es : List Value} (h : w.cells? base a n = some es) : es.length = n ∧ ∀ j, j < es.length → w.cell? (a.add j) = some (es.getD j undef) := by
  unfold World.cells? at h
  split at h
  · have hl := mapM_len _ _ _ h
    simp at hl
    refine ⟨hl, fun j hj => ?_⟩
    obtain ⟨y, hy, hf⟩ := mapM_get _ _ _ h j j (List.getElem?_eq_some_iff.2 ⟨by rw [List.length_range]; omega, by simp⟩)
    rw [hf]; simp [List.getD, hy]
  · cases h

theorem reads_of {H : Type} {enc : TypeId × Value → H} {P : Program} {w : World} {base : Nat} {sp : Nat → Bool} {held : Bool} (n : Nat) :
    ∀ (T : TypeId) (cs : List Value) (x : DataW H × List MemPlace), DataW.trod enc P w base sp held n T cs = some x → Reads P w n T cs := by
  induction n with
  | zero => intro T cs x h; simp [DataW.trod] at h
  | succ n ih =>
    intro T cs x h
    unfold Reads
    unfold DataW.trod at h
    cases hu : P.underlying T with
    | none => trivial
    | some u =>
      rw [hu] at h
      cases u <;> simp only [] <;> try trivial
      case bool =>
        split at h <;> simp_all
      case int k =>
        split at h <;> simp_all
      case string =>
        split at h <;> simp_all
      case slice e =>
        split at h <;> try (simp_all; done)
        rename_i a len cap heq
        simp only [Option.some.injEq, TypeDesc.slice.injEq] at heq
        subst heq
        split at h
        · rename_i hh
          obtain ⟨ys, hys, -⟩ := Option.bind_eq_some_iff.1 h
          refine .inr ⟨a, len, cap, rfl, hh.2.1, hh.2.2, fun i hi => ?_⟩
          obtain ⟨y, hy⟩ := mapM_all _ _ _ hys i (by simpa using hi)
          obtain ⟨es, hes, hd⟩ := Option.bind_eq_some_iff.1 hy
          obtain ⟨hl, hc⟩ := cells_get hes
          exact ⟨es, hl, hc, ih _ _ _ hd⟩
        · cases h
      case struct fs =>
        split at h <;> try (simp_all; done)
        rename_i heq
        simp only [Option.some.injEq, TypeDesc.struct.injEq] at heq
        subst heq
        split at h
        · rename_i hl
          obtain ⟨ys, hys, -⟩ := Option.map_eq_some_iff.1 h
          exact ⟨hl, fun f hf => by
            obtain ⟨y, hy⟩ := mapM_all _ _ _ hys f hf
            exact ih _ _ _ hy⟩
        · cases h

def Rds (P : Program) (w : World) (T : TypeId) (cs : List Value) : Prop := ∃ n, Reads P w n T cs

section
variable {P : Program} {w : World} {T : TypeId} {cs : List Value}
theorem Rds.up (h : Rds P w T cs) : ∃ n, Reads P w (n + 1) T cs := by
  obtain ⟨n, h⟩ := h
  cases n with
  | zero => exact h.elim
  | succ n => exact ⟨n, h⟩
theorem Rds.int {k : IntKind} (hu : P.underlying T = some (.int k)) (h : Rds P w T cs) : ∃ x, cs = [.int k x] ∧ (Lit.int k x).wf = true := by
  obtain ⟨n, h⟩ := h.up; unfold Reads at h; rw [hu] at h; exact h
theorem Rds.bool (hu : P.underlying T = some .bool) (h : Rds P w T cs) : ∃ b, cs = [.bool b] := by
  obtain ⟨n, h⟩ := h.up; unfold Reads at h; rw [hu] at h; exact h
theorem Rds.str (hu : P.underlying T = some .string) (h : Rds P w T cs) : ∃ s : ByteArray, cs = [.string s] ∧ s.size ≤ maxLen := by
  obtain ⟨n, h⟩ := h.up; unfold Reads at h; rw [hu] at h; exact h
theorem Rds.sl {e : TypeId} (hu : P.underlying T = some (.slice e)) (h : Rds P w T cs) : cs = [.slice none 0 0] ∨ ∃ a len cap, cs = [.slice (some a) len cap] ∧ len ≤ cap ∧ cap ≤ maxLen ∧
        ∀ i, i < len → ∃ es : List Value, es.length = P.cellsOf e ∧ (∀ j, j < es.length → w.cell? ((a.add (i * P.cellsOf e)).add j) = some (es.getD j undef)) ∧ Rds P w e es := by
  obtain ⟨n, h⟩ := h.up; unfold Reads at h; rw [hu] at h
  rcases h with h | ⟨a, len, cap, h1, h2, h3, h4⟩
  · exact .inl h
  · exact .inr ⟨a, len, cap, h1, h2, h3, fun i hi => by obtain ⟨es, k1, k2, k3⟩ := h4 i hi; exact ⟨es, k1, k2, n, k3⟩⟩
theorem Rds.st {fs : Array Field} (hu : P.underlying T = some (.struct fs)) (h : Rds P w T cs) : cs.length = P.cellsOf T ∧ ∀ f ∈ fs.toList, Rds P w f.type ((cs.drop f.offset).take (P.cellsOf f.type)) := by
  obtain ⟨n, h⟩ := h.up; unfold Reads at h; rw [hu] at h
  exact ⟨h.1, fun f hf => ⟨n, h.2 f hf⟩⟩
theorem i64_of {x : Int} (h : (Lit.int .i64 x).wf = true) : I64 x := by
  simp [Lit.wf, IntKind.min, IntKind.max, IntKind.signed, IntKind.bits] at h; unfold I64; omega
end

/-- an argument: its value's cells, read -/
theorem rds_arg {H : Type} {enc : TypeId × Value → H} {P : Program} {w : World} {base : Nat} {sp : Nat → Bool} {held : Bool} {T : TypeId} {v : Value} {d : DataW H} {ps : List MemPlace} (h : DataW.Trod enc P w base sp held T v d ps) : Rds P w T v.cells.toList := by
  obtain ⟨n, h⟩ := h; exact ⟨n, reads_of n _ _ _ h⟩

theorem cells_string : Try.prog.cellsOf 9 = 1 := by kernel_rfl
theorem cells_int64 : Try.prog.cellsOf 2 = 1 := by kernel_rfl
end Go.Proofs.Ytjibilibdjfdcaa
