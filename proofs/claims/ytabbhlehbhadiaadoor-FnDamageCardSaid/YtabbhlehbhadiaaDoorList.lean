/- The program's numeral and both sides' list text. -/
import Derived.Test.YtabbhlehbhadiaaDoorDec
import Derived.Test.YtabbhlehbhadiaaDoorShelf
import Derived.Test.YtabbhlehbhadiaaDoorNames
import Derived.Test.YtabbhlehbhadiaaDoorTInt64
import Derived.Lib.SmallJoins
import Derived.Lib.AppendIntMem
namespace Go.Proofs.YtabbhlehbhadiaaDoor
open Go.RowKit Go.Sort
set_option linter.unusedVariables false
set_option maxRecDepth 100000

/-! ### byte strings as lists -/
def bs (l : List UInt8) : ByteArray := ⟨l.toArray⟩
theorem bs_app (a b : List UInt8) : bs a ++ bs b = bs (a ++ b) := by unfold bs; rw [ByteArray.mk_append_mk]
theorem bs_size (l : List UInt8) : (bs l).size = l.length := by simp [bs, ByteArray.size]
theorem bs_list (l : List UInt8) : (bs l).data.toList = l := by simp [bs]
theorem decS_bs (n : Int) : decS n = bs (Lib.itoa n) := rfl
theorem bs_self (s : ByteArray) : bs s.data.toList = s := by cases s; simp [bs]
theorem bs_self' (s : ByteArray) : bs s.toList = s := by rw [ByteArray.toList_eq]; exact bs_self s
theorem decS_size {n : Int} (h : I64 n) : (decS n).size ≤ 21 := by rw [decS_bs, bs_size]; exact Lib.itoa_length_le n h.1 h.2

/-! ### the table that the library's numeral reads -/
def Pow (w : World) : Prop := Lib.TabIs Tryd.prog w "internal/strconv.uint64pow10" .u64 Lib.pow10Tab
theorem pow_named : Tryd.prog.globalNamed "internal/strconv.uint64pow10" = some 3 := by kernel_rfl
theorem Pow.at {w w' : World} (h : Pow w) (hb : Below w.heap.size w w') : Pow w' := Joins.tab_stays pow_named h hb (Nat.le_refl _)
theorem c_Decimal (n : Int) (w : World) (hn : I64 n) (hp : Pow w) :
    Calls Tryd.prog 51 #[.int .i64 n] w fun e w' => e = .returned (.string (decS n)) ∧ Below w.heap.size w w' := by
  go_enter Tryd.func51, Tryd.ntmps51
  go_wp2_with (go_at_call 63; refine (Tryd.strconv_FormatInt_10 n hn.1 hn.2 _ hp).mono ?_; rintro e w1 ⟨rfl, k, os, rfl⟩)
  go_ret
  exact ⟨rfl, Lib.below_grow _ _ (Nat.le_refl _) k os⟩

/-! ### the text of a list -/
def numsL (xs : List Int) : List UInt8 := jn 44 (xs.map Lib.itoa)
def listL (xs : List Int) : List UInt8 := if xs = [] then [45] else numsL xs
theorem jn_snoc (c : UInt8) (ps : List (List UInt8)) (p : List UInt8) : jn c (ps ++ [p]) = if ps = [] then p else jn c ps ++ c :: p := by
  cases ps with
  | nil => simp [jn]
  | cons q r => simp [jn]
theorem numsL_take {xs : List Int} {k : Nat} (h : k < xs.length) : numsL (xs.take (k + 1)) = if k = 0 then Lib.itoa xs[k] else numsL (xs.take k) ++ 44 :: Lib.itoa xs[k] := by
  have e : xs.take (k + 1) = xs.take k ++ [xs[k]] := by simp
  rw [e, numsL, List.map_append, List.map_cons, List.map_nil, jn_snoc]
  by_cases hk : k = 0
  · subst hk; simp
  · rw [if_neg hk, if_neg]
    · rfl
    · intro e2
      have h3 : (List.map Lib.itoa (xs.take k)).length = 0 := by rw [e2]; rfl
      rw [List.length_map, List.length_take] at h3
      omega
theorem numsL_size {xs : List Int} (h : ∀ x ∈ xs, I64 x) : (numsL xs).length ≤ 22 * xs.length := by
  have : ∀ k, k ≤ xs.length → (numsL (xs.take k)).length ≤ 22 * k := by
    intro k
    induction k with
    | zero => intro _; simp [numsL, jn]
    | succ k ih =>
      intro hk
      have h1 := ih (by omega)
      have hx := h xs[k] (List.getElem_mem _)
      have h2 := Lib.itoa_length_le xs[k] hx.1 hx.2
      rw [numsL_take (show k < xs.length by omega)]
      split
      · omega
      · simp; omega
  have h2 := this xs.length (Nat.le_refl _)
  rw [List.take_length] at h2
  exact h2

/-! ### lists of strings -/
theorem one_encT (y : ByteArray) : ∀ u ∈ encT y, u.oneCell' = true := by intro u hu; simp only [encT, List.mem_singleton] at hu; subst hu; rfl
theorem info_string : (Tryd.prog.info? 9).map (fun i => (i.zero, i.size, i.bytes)) = some (some (.string ⟨#[]⟩), 1, 16) := by kernel_rfl

def fitsB (xs : List Int) : Bool := decide ((xs.length : Int) ≤ 64) && xs.all fun x => inB x (-1000000000000) 1000000000000
def listT (xs : List Int) : ByteArray := if fitsB xs then bs (listL xs) else ⟨#[]⟩
theorem listT_ok {xs : List Int} (h : fitsB xs = true) : listT xs = bs (listL xs) := by rw [listT, if_pos h]
theorem listT_no {xs : List Int} (h : fitsB xs = false) : listT xs = ⟨#[]⟩ := by rw [listT, h]; rfl
theorem all_take_snoc {α : Type} (p : α → Bool) (xs : List α) (k : Nat) (h : k < xs.length) : (xs.take (k + 1)).all p = ((xs.take k).all p && p xs[k]) := by
  have e : xs.take (k + 1) = xs.take k ++ [xs[k]] := by simp
  rw [e, List.all_append]; simp
theorem all_false_at {α : Type} (p : α → Bool) (xs : List α) (k : Nat) (h : k < xs.length) (hp : p xs[k] = false) : xs.all p = false := by
  rw [← Bool.not_eq_true]
  intro e
  rw [List.all_eq_true.1 e _ (List.getElem_mem h)] at hp
  cases hp
end Go.Proofs.YtabbhlehbhadiaaDoor
