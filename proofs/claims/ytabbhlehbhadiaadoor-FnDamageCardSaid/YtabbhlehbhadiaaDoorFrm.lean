/- A frame of the archive's bytes, its first line, the whole: what both sides read. Plain. -/
import Derived.Test.YtabbhlehbhadiaaDoorCrc
import Derived.Test.YtabbhlehbhadiaaDoorItem
import Derived.Test.YtabbhlehbhadiaaDoorPointRd
import Derived.Deep.RegionHeld3
namespace Go.Proofs.YtabbhlehbhadiaaDoor
open Go.RowKit Go.Sort
set_option linter.unusedVariables false
set_option maxRecDepth 100000

/-- the place of the first newline -/
def nlO : List UInt8 → Option Nat
  | [] => none
  | c :: r => if c = 10 then some 0 else (nlO r).map (· + 1)
theorem nlO_none : ∀ {l : List UInt8}, (10 : UInt8) ∉ l → nlO l = none
  | [], _ => rfl
  | c :: r, h => by
    have h1 : ¬ c = 10 := fun e => h (by simp [e])
    have h2 : (10 : UInt8) ∉ r := fun e => h (by simp [e])
    rw [nlO, if_neg h1, nlO_none h2]; rfl
theorem nlO_app : ∀ (a r : List UInt8), (10 : UInt8) ∉ a → nlO (a ++ 10 :: r) = some a.length
  | [], r, _ => by rw [List.nil_append, nlO, if_pos rfl]; rfl
  | c :: a, r, h => by
    have h1 : ¬ c = 10 := fun e => h (by simp [e])
    have h2 : (10 : UInt8) ∉ a := fun e => h (by simp [e])
    rw [List.cons_append, nlO, if_neg h1, nlO_app a r h2]; rfl
theorem nlO_no : ∀ {l : List UInt8}, nlO l = none → (10 : UInt8) ∉ l
  | [], _ => by simp
  | c :: r, h => by
    rw [nlO] at h
    split at h
    · cases h
    · rename_i h1
      cases h2 : nlO r with
      | none =>
        intro e
        rcases List.mem_cons.1 e with e | e
        · exact h1 e.symm
        · exact nlO_no h2 e
      | some j => rw [h2] at h; cases h
theorem nlO_some : ∀ {l : List UInt8} {j : Nat}, nlO l = some j → j < l.length ∧ (10 : UInt8) ∉ l.take j ∧ l = l.take j ++ 10 :: l.drop (j + 1)
  | [], j, h => by cases h
  | c :: r, j, h => by
    rw [nlO] at h
    split at h
    · rename_i h1
      injection h with h
      subst h; subst h1
      exact ⟨by simp, by simp, by simp⟩
    · rename_i h1
      cases h2 : nlO r with
      | none => rw [h2] at h; cases h
      | some k =>
        rw [h2] at h
        injection h with h
        subst h
        obtain ⟨k1, k2, k3⟩ := nlO_some h2
        refine ⟨by simpa using k1, ?_, ?_⟩
        · intro e
          rw [List.take_succ_cons] at e
          rcases List.mem_cons.1 e with e | e
          · exact h1 e.symm
          · exact k2 e
        · rw [List.take_succ_cons, List.drop_succ_cons, List.cons_append, ← k3]
theorem nlO_of {l : List UInt8} {j : Nat} (hj : j < l.length) (h : (10 : UInt8) ∉ l.take j) (e : l[j] = 10) : nlO l = some j := by
  have h1 : l = l.take j ++ 10 :: l.drop (j + 1) := by
    conv => lhs; rw [← List.take_append_drop j l, List.drop_eq_getElem_cons hj, e]
  have h2 := nlO_app (l.take j) (l.drop (j + 1)) h
  rw [← h1] at h2
  rw [h2, List.length_take]; congr 1; omega
theorem cut_nl_none {l : List UInt8} (h : nlO l = none) : Lib.cut l [10] = (l, [], false) := by
  rcases index_one 10 l with ⟨h1, h2⟩ | ⟨i, h1, h2, h3, h4⟩
  · unfold Lib.cut; rw [h1, if_neg (by omega)]
  · exact absurd (by rw [h4]; simp) (nlO_no h)
theorem cut_nl_some {l : List UInt8} {j : Nat} (h : nlO l = some j) : Lib.cut l [10] = (l.take j, l.drop (j + 1), true) := by
  rcases index_one 10 l with ⟨h1, h2⟩ | ⟨i, h1, h2, h3, h4⟩
  · rw [nlO_none h2] at h; cases h
  · have h5 := nlO_app (l.take i) (l.drop (i + 1)) h3
    rw [← h4, h, List.length_take] at h5
    injection h5 with h5
    have e : j = i := by omega
    subst e
    unfold Lib.cut; rw [h1, if_pos (by omega)]; simp

theorem three_bytes {xs : List ByteArray} (h : xs.length = 3) : ∃ a b c, xs = [a, b, c] := by
  match xs, h with
  | [a, b, c], _ => exact ⟨a, b, c, rfl⟩
/-! ### a frame -/
structure FrD where
  it : ItemD
  chk : Int
  used : Nat
def frT (a : ByteArray) (n : Nat) (c : Int) (rest : List UInt8) (base : Nat) : Option FrD × Int :=
  if rest.length < n + 1 then (none, 11) else if rest.getD n 0 = 10 then (some ⟨⟨a, bs (rest.take n)⟩, c, base + n + 1⟩, 0) else (none, 9)
def frN (a : ByteArray) (n c : Int) (ok : Bool) (rest : List UInt8) (base : Nat) : Option FrD × Int :=
  if ok && inB n 0 400 && decide (0 ≤ c) then frT a n.toNat c rest base else (none, 9)
def frW (rest : List UInt8) (base : Nat) : List ByteArray → Option FrD × Int
  | [a, b, c] => if nameB a then frN a (numV b.data.toList) (numV c.data.toList) (numB b.data.toList && numB c.data.toList) rest base else (none, 9)
  | _ => (none, 9)
theorem frW_len {rest : List UInt8} {base : Nat} {ps : List ByteArray} (h : ps.length ≠ 3) : frW rest base ps = (none, 9) := by
  match ps, h with
  | [], _ => rfl
  | [_], _ => rfl
  | [_, _], _ => rfl
  | [_, _, _], h => exact absurd rfl h
  | _ :: _ :: _ :: _ :: _, _ => rfl
def frL (l : List UInt8) : Option FrD × Int := match nlO l with
  | none => (none, 11)
  | some j => frW (l.drop (j + 1)) (j + 1) (cutB 32 (l.take j))
theorem frL_none {l : List UInt8} (h : nlO l = none) : frL l = (none, 11) := by rw [frL, h]
theorem frL_some {l : List UInt8} {j : Nat} (h : nlO l = some j) : frL l = frW (l.drop (j + 1)) (j + 1) (cutB 32 (l.take j)) := by rw [frL, h]
theorem frT_cases (a : ByteArray) (n : Nat) (c : Int) (rest : List UInt8) (base : Nat) : (frT a n c rest base).1 = none ∧ (frT a n c rest base).2 ≠ 0 ∨ frT a n c rest base = (some ⟨⟨a, bs (rest.take n)⟩, c, base + n + 1⟩, 0) ∧ n + 1 ≤ rest.length := by
  unfold frT
  split
  · exact .inl ⟨rfl, by decide⟩
  · split
    · exact .inr ⟨rfl, by omega⟩
    · exact .inl ⟨rfl, by decide⟩
/-- what a frame read is -/
theorem frL_cases (l : List UInt8) : ((frL l).1 = none ∧ (frL l).2 ≠ 0) ∨ ∃ f, frL l = (some f, 0) ∧ f.it.fText.size ≤ 400 ∧ nameB f.it.fKey = true ∧ 0 < f.used ∧ f.used ≤ l.length := by
  cases h : nlO l with
  | none => rw [frL_none h]; exact .inl ⟨rfl, by decide⟩
  | some j =>
    obtain ⟨h1, -, -⟩ := nlO_some h
    rw [frL_some h]
    by_cases h3 : (cutB 32 (l.take j)).length = 3
    · obtain ⟨a, b, c, e⟩ := three_bytes h3
      rw [e]
      simp only [frW]
      split
      · rename_i hn
        unfold frN
        split
        · rename_i hk
          simp only [Bool.and_eq_true] at hk
          have hi := inB_true hk.1.2
          rcases frT_cases a (numV b.data.toList).toNat (numV c.data.toList) (l.drop (j + 1)) (j + 1) with h4 | ⟨h4, h5⟩
          · exact .inl h4
          · rw [List.length_drop] at h5
            rw [h4]
            refine .inr ⟨_, rfl, ?_, hn, by show 0 < j + 1 + _ + 1; omega, by show j + 1 + _ + 1 ≤ _; omega⟩
            show (bs _).size ≤ 400
            rw [bs_size, List.length_take]; omega
        · exact .inl ⟨rfl, by decide⟩
      · exact .inl ⟨rfl, by decide⟩
    · rw [frW_len h3]; exact .inl ⟨rfl, by decide⟩

/-! ### the first line -/
def arcW : List UInt8 := [97, 114, 99, 104, 105, 118, 101]
def hdN (ok : Bool) (n : Int) : Option Nat := if ok && inB n 0 40 then some n.toNat else none
def hdW : List ByteArray → Option Nat
  | [a, b] => if a.toList == arcW then hdN (numB b.data.toList) (numV b.data.toList) else none
  | _ => none
theorem hdW_len {ps : List ByteArray} (h : ps.length ≠ 2) : hdW ps = none := by
  match ps, h with
  | [], _ => rfl
  | [_], _ => rfl
  | [_, _], h => exact absurd rfl h
  | _ :: _ :: _ :: _, _ => rfl
def hdL (line : List UInt8) : Option Nat := hdW (cutB 32 line)
/-- .. as the program reads it -/
def hdI (line : List UInt8) : Option Nat := if Lib.hasPrefix line (arcW ++ [32]) then hdN (numB (Lib.trimPrefix line (arcW ++ [32]))) (numV (Lib.trimPrefix line (arcW ++ [32]))) else none
theorem hdN_false (n : Int) : hdN false n = none := rfl
theorem hdN_some {ok : Bool} {n : Int} {m : Nat} (h : hdN ok n = some m) : ok = true ∧ n = m ∧ m ≤ 40 := by
  unfold hdN at h
  split at h
  · rename_i hk
    simp only [Bool.and_eq_true] at hk
    have := inB_true hk.2
    injection h with h
    exact ⟨hk.1, by omega, by omega⟩
  · cases h
theorem numB_32 {l : List UInt8} (h : (32 : UInt8) ∈ l) : numB l = false := by
  cases hq : numB l with
  | false => rfl
  | true => rw [numB_itoa hq] at h; exact absurd h (itoa_no32 _)
theorem arc_no32 : (32 : UInt8) ∉ arcW := by decide
theorem hd_app (r : List UInt8) : hdL (arcW ++ 32 :: r) = hdN (numB r) (numV r) := by
  have h1 := cutAt_app 32 r arcW arc_no32
  by_cases h : (32 : UInt8) ∈ r
  · rw [numB_32 h, hdN_false, hdL, hdW_len]
    rw [cutB, h1, List.length_map, List.length_cons]
    intro e
    have e1 : (cutAt 32 r).length = 1 := by omega
    have e2 := jn_cutAt 32 r
    have e3 := cutAt_no 32 r
    match hq : cutAt 32 r, e1 with
    | [p], _ =>
      rw [hq] at e2
      have h5 := e3 p (by rw [hq]; simp)
      have e4 : p = r := by rw [← e2]; simp [jn]
      rw [e4] at h5
      exact h5 h
  · rw [hdL, cutB, h1, cutAt_clean 32 r h]
    simp only [List.map_cons, List.map_nil, hdW, bs_list]
    rw [if_pos]
    rw [ByteArray.toList_eq, bs_list]; rfl
theorem cutB_two' {c : UInt8} {l : List UInt8} {a b : ByteArray} (h : cutB c l = [a, b]) : cutAt c l = [a.data.toList, b.data.toList] := by
  have := congrArg (List.map fun x : ByteArray => x.data.toList) h
  rw [cutB, List.map_map] at this
  rw [← List.map_id (cutAt c l)]
  refine Eq.trans (List.map_congr_left fun p _ => ?_) this
  exact (bs_list p).symm
theorem hd_not {line : List UInt8} (h : ∀ r, line ≠ arcW ++ 32 :: r) : hdL line = none := by
  unfold hdL
  by_cases h2 : (cutB 32 line).length = 2
  · obtain ⟨a, b, e⟩ := two_of h2
    rw [e]
    simp only [hdW]
    split
    · rename_i ha
      have ha := beq_iff_eq.1 ha
      rw [ByteArray.toList_eq] at ha
      have h3 := jn_cutAt 32 line
      rw [cutB_two' e, jn_cons, ha] at h3
      exact absurd h3.symm (by simpa [jn] using h b.data.toList)
    · rfl
  · exact hdW_len h2
theorem pre_iff (line : List UInt8) : Lib.hasPrefix line (arcW ++ [32]) = true ↔ ∃ r, line = arcW ++ 32 :: r := by
  unfold Lib.hasPrefix
  rw [List.isPrefixOf_iff_prefix]
  constructor
  · rintro ⟨r, h⟩; exact ⟨r, by rw [← h]; simp⟩
  · rintro ⟨r, h⟩; exact ⟨r, by rw [h]; simp⟩
theorem hdI_eq (line : List UInt8) : hdI line = hdL line := by
  unfold hdI
  by_cases h : ∃ r, line = arcW ++ 32 :: r
  · rw [if_pos ((pre_iff line).2 h)]
    obtain ⟨r, rfl⟩ := h
    have e : Lib.trimPrefix (arcW ++ 32 :: r) (arcW ++ [32]) = r := by
      unfold Lib.trimPrefix
      rw [if_pos ((pre_iff _).2 ⟨r, rfl⟩)]
      simp [arcW]
    rw [e, hd_app]
  · have hn : ¬ Lib.hasPrefix line (arcW ++ [32]) = true := fun e => h ((pre_iff line).1 e)
    rw [if_neg hn, hd_not fun r e => h ⟨r, e⟩]

/-! ### the whole -/
def badB (f : FrD) : Bool := f.chk != chkV f.it.fKey f.it.fText
def arcF {A : Type} (stp : A → ItemD → Bool → Int × A) : Nat → A → List UInt8 → Int × A
  | 0, a, l => if l = [] then (0, a) else (9, a)
  | n + 1, a, l => match frL l with
    | (some f, _) => if (stp a f.it (badB f)).1 = 0 then arcF stp n (stp a f.it (badB f)).2 (l.drop f.used) else stp a f.it (badB f)
    | (none, c) => (c, a)
theorem arcF_bad {A : Type} {stp : A → ItemD → Bool → Int × A} {n : Nat} {a : A} {l : List UInt8} {c : Int} (h : frL l = (none, c)) : arcF stp (n + 1) a l = (c, a) := by rw [arcF, h]
theorem arcF_go {A : Type} {stp : A → ItemD → Bool → Int × A} {n : Nat} {a : A} {l : List UInt8} {f : FrD} (h : frL l = (some f, 0)) (h2 : (stp a f.it (badB f)).1 = 0) : arcF stp (n + 1) a l = arcF stp n (stp a f.it (badB f)).2 (l.drop f.used) := by
  rw [arcF, h]; simp only; rw [if_pos h2]
theorem arcF_out {A : Type} {stp : A → ItemD → Bool → Int × A} {n : Nat} {a : A} {l : List UInt8} {f : FrD} (h : frL l = (some f, 0)) (h2 : (stp a f.it (badB f)).1 ≠ 0) : arcF stp (n + 1) a l = stp a f.it (badB f) := by
  rw [arcF, h]; simp only; rw [if_neg h2]
def arcL {A : Type} (stp : A → ItemD → Bool → Int × A) (a : A) (l : List UInt8) : Int × A := match nlO l with
  | none => (11, a)
  | some j => match hdL (l.take j) with
    | none => (9, a)
    | some n => arcF stp n a (l.drop (j + 1))
theorem arcL_none {A : Type} {stp : A → ItemD → Bool → Int × A} {a : A} {l : List UInt8} (h : nlO l = none) : arcL stp a l = (11, a) := by rw [arcL, h]
theorem arcL_bad {A : Type} {stp : A → ItemD → Bool → Int × A} {a : A} {l : List UInt8} {j : Nat} (h : nlO l = some j) (h2 : hdL (l.take j) = none) : arcL stp a l = (9, a) := by rw [arcL, h]; simp only; rw [h2]
theorem arcL_go {A : Type} {stp : A → ItemD → Bool → Int × A} {a : A} {l : List UInt8} {j n : Nat} (h : nlO l = some j) (h2 : hdL (l.take j) = some n) : arcL stp a l = arcF stp n a (l.drop (j + 1)) := by rw [arcL, h]; simp only; rw [h2]

/-! ### what is done with an item -/
def lastLt (xs : List ItemD) (d : ItemD) : Bool := match xs.getLast? with | some p => Op.bytesLess p.fKey.toList d.fKey.toList | none => true
def loadStp (xs : List ItemD) (d : ItemD) (bad : Bool) : Int × List ItemD := if bad then (10, xs) else if lastLt xs d then (0, xs ++ [d]) else (7, xs)
def damStp (x : List Int × Nat) (d : ItemD) (bad : Bool) : Int × (List Int × Nat) := (0, (if bad then x.1 ++ [(x.2 : Int)] else x.1, x.2 + 1))
def salStp (xs : List ItemD) (d : ItemD) (bad : Bool) : Int × List ItemD := (0, if !bad && lastLt xs d then xs ++ [d] else xs)
def scanStp (x : List ItemD × List Bool) (d : ItemD) (bad : Bool) : Int × (List ItemD × List Bool) := (0, (x.1 ++ [d], x.2 ++ [!bad]))
def loadC (l : List UInt8) : Int := (arcL loadStp [] l).1
def loadR (l : List UInt8) : List ItemD := if loadC l = 0 then (arcL loadStp [] l).2 else []
def damC (l : List UInt8) : Int := (arcL damStp ([], 0) l).1
def damR (l : List UInt8) : List Int := if damC l = 0 then (arcL damStp ([], 0) l).2.1 else []
def salC (l : List UInt8) : Int := (arcL salStp [] l).1
def salR (l : List UInt8) : List ItemD := if salC l = 0 then (arcL salStp [] l).2 else []
def scanC (l : List UInt8) : Int := (arcL scanStp ([], []) l).1
def scanI (l : List UInt8) : List ItemD := if scanC l = 0 then (arcL scanStp ([], []) l).2.1 else []
def scanB (l : List UInt8) : List Bool := if scanC l = 0 then (arcL scanStp ([], []) l).2.2 else []
end Go.Proofs.YtabbhlehbhadiaaDoor
namespace Go.Proofs.YtabbhlehbhadiaaDoor
open Go.RowKit Go.Sort
set_option linter.unusedVariables false
set_option maxRecDepth 100000

theorem lst_len (s : ByteArray) (p : Nat) : (s.data.toList.drop p).length = s.size - p := by rw [List.length_drop]; show s.data.toList.length - p = _; simp
/-- the line from a place on -/
def LineP (s : ByteArray) (p : Nat) (w : World) (e : Ending) (w' : World) : Prop := w = w' ∧ match nlO (s.data.toList.drop p) with
  | none => e = .returned (.tuple #[.string ⟨#[]⟩, .int .i64 0, .bool false])
  | some j => e = .returned (.tuple #[.string (s.extract p (p + j)), .int .i64 ((p + j + 1 : Nat) : Int), .bool true])
theorem lineP_none {s : ByteArray} {p : Nat} {w : World} (h : nlO (s.data.toList.drop p) = none) : LineP s p w (.returned (.tuple #[.string ⟨#[]⟩, .int .i64 0, .bool false])) w := ⟨rfl, by rw [h]⟩
theorem lineP_some {s : ByteArray} {p k : Nat} {w : World} (hk : p ≤ k) (h : nlO (s.data.toList.drop p) = some (k - p)) : LineP s p w (.returned (.tuple #[.string (s.extract p k), .int .i64 ((k : Int) + 1), .bool true])) w := ⟨rfl, by rw [h]; show _ = Ending.returned _; rw [show p + (k - p) = k by omega]; rfl⟩

/-! ### the first line -/
def headV (l : List UInt8) : Value := match nlO l with
  | none => .tuple #[.int .i64 0, .int .i64 0, .int .i64 11]
  | some j => match hdL (l.take j) with
    | none => .tuple #[.int .i64 0, .int .i64 0, .int .i64 9]
    | some n => .tuple #[.int .i64 (n : Int), .int .i64 ((j + 1 : Nat) : Int), .int .i64 0]
theorem headV_none {l : List UInt8} (h : nlO l = none) : headV l = .tuple #[.int .i64 0, .int .i64 0, .int .i64 11] := by rw [headV, h]
theorem headV_bad {l : List UInt8} {j : Nat} (h : nlO l = some j) (h2 : hdL (l.take j) = none) : headV l = .tuple #[.int .i64 0, .int .i64 0, .int .i64 9] := by rw [headV, h]; simp only [h2]
theorem headV_go {l : List UInt8} {j n : Nat} (h : nlO l = some j) (h2 : hdL (l.take j) = some n) : headV l = .tuple #[.int .i64 (n : Int), .int .i64 ((j + 1 : Nat) : Int), .int .i64 0] := by rw [headV, h]; simp only [h2]
def HeadP (s : ByteArray) (w : World) (e : Ending) (w' : World) : Prop := Below w.heap.size w w' ∧ e = .returned (headV s.data.toList)
theorem headP_none {s : ByteArray} {w w' : World} (hb : Below w.heap.size w w') (h : nlO s.data.toList = none) : HeadP s w (.returned (.tuple #[.int .i64 0, .int .i64 0, .int .i64 11])) w' := ⟨hb, by rw [headV_none h]⟩
theorem headP_bad {s : ByteArray} {w w' : World} {j : Nat} (hb : Below w.heap.size w w') (h : nlO s.data.toList = some j) (h2 : hdL (s.data.toList.take j) = none) : HeadP s w (.returned (.tuple #[.int .i64 0, .int .i64 0, .int .i64 9])) w' := ⟨hb, by rw [headV_bad h h2]⟩
theorem headP_go {s : ByteArray} {w w' : World} {j n : Nat} (hb : Below w.heap.size w w') (h : nlO s.data.toList = some j) (h2 : hdL (s.data.toList.take j) = some n) : HeadP s w (.returned (.tuple #[.int .i64 (n : Int), .int .i64 ((j + 1 : Nat) : Int), .int .i64 0])) w' := ⟨hb, by rw [headV_go h h2]⟩
theorem line_none {s : ByteArray} {p : Nat} {w w' : World} {e : Ending} (h : LineP s p w e w') (hn : nlO (s.data.toList.drop p) = none) : w = w' ∧ e = .returned (.tuple #[.string ⟨#[]⟩, .int .i64 0, .bool false]) := ⟨h.1, by have := h.2; rw [hn] at this; exact this⟩
theorem line_some {s : ByteArray} {p j : Nat} {w w' : World} {e : Ending} (h : LineP s p w e w') (hn : nlO (s.data.toList.drop p) = some j) : w = w' ∧ e = .returned (.tuple #[.string (s.extract p (p + j)), .int .i64 ((p + j + 1 : Nat) : Int), .bool true]) := ⟨h.1, by have := h.2; rw [hn] at this; exact this⟩
theorem line_list (s : ByteArray) (p j : Nat) : (s.extract p (p + j)).data.toList = (s.data.toList.drop p).take j := by rw [ext_bs, bs_list]; congr 1; omega
end Go.Proofs.YtabbhlehbhadiaaDoor
