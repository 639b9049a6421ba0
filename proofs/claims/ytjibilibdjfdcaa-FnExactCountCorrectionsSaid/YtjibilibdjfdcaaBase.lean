/- Small lemmas that every text of this seat uses: strings as lists of bytes, worlds that grow. -/
import Derived.Test.YtjibilibdjfdcaaRows
import Derived.WalkKit
import Derived.WalkSpells
import Derived.WalkLawsBesides
import Derived.Deep.Light
import Derived.Deep.QuietTactic
import Derived.BigQuiet
import Derived.Deep.DeepFit
import Derived.Lib.QuietBelow
namespace Go.Proofs.Ytjibilibdjfdcaa
open Go.RowKit Go.Sort

theorem hid {p : Prop} (h : p) : Hid p := h
theorem below_via {B M : Nat} {a b c : World} (k : Below M b c) (hB : B ≤ M) (h : Below B a b) : Below B a c := h.trans (k.mono hB)
@[simp] theorem size_drewN (w : World) (n : Nat) : (w.drewN n).heap.size = w.heap.size := rfl
theorem below_drewN {B : Nat} {a w : World} (h : Below B a w) (n : Nat) : Below B a (w.drewN n) := ⟨h.os, h.tape, h.output, h.size, h.block⟩
theorem bcell {W w1 : World} (hb : Below W.heap.size W w1) : (∀ b o, b < W.heap.size → w1.cell? ⟨b, o, none⟩ = W.cell? ⟨b, o, none⟩) ∧ (∀ b o, b < W.heap.size → w1.frozen? ⟨b, o, none⟩ = W.frozen? ⟨b, o, none⟩) :=
  ⟨fun b o h => hb.cell (p := ⟨b, o, none⟩) h, fun b o h => hb.frozen (p := ⟨b, o, none⟩) h⟩

theorem ret_int {k : IntKind} {a b : Int} (h : a = b) : Ending.returned (.int k a) = .returned (.int k b) := by rw [h]
theorem ret_bool {a b : Bool} (h : a = b) : Ending.returned (.bool a) = .returned (.bool b) := by rw [h]
def I64 (x : Int) : Prop := -9223372036854775808 ≤ x ∧ x ≤ 9223372036854775807
theorem drop_cons {α : Type} (xs : List α) (k : Nat) (h : k < xs.length) : xs.drop k = xs[k] :: xs.drop (k + 1) := List.drop_eq_getElem_cons h

/-! ### a region that draws, whose callees may make memory -/
theorem regrown_of {P : Program} {f : FuncId} {args : Array Value} {w : World} {d : Nat} {os : Array Obj} {v : Value}
    (h : Calls P f args (grow (redrawn w d) os) fun e w' => e = .returned v ∧ Below (grow (redrawn w d) os).heap.size (grow (redrawn w d) os) w') : Calls P f args (grow (redrawn w d) os) fun e w'' => e = .returned v ∧ ∃ p : Regrown, w'' = grow (redrawn w p.d) p.os := Calls.regrown_of h
theorem regrown_bool {P : Program} {f : FuncId} {args : Array Value} {w : World} {d : Nat} {os : Array Obj} {b r : Bool}
    (h : Calls P f args (grow (redrawn w d) os) fun e w' => e = .returned (.bool b) ∧ Below (grow (redrawn w d) os).heap.size (grow (redrawn w d) os) w') (hb : b = r) : Calls P f args (grow (redrawn w d) os) fun e w'' => e = .returned (.bool r) ∧ ∃ p : Regrown, w'' = grow (redrawn w p.d) p.os := by
  subst hb; exact Calls.regrown_of h
theorem regrown_of_pure {P : Program} {f : FuncId} {args : Array Value} {w : World} {d : Nat} {os : Array Obj} {v : Value}
    (h : Calls P f args (grow (redrawn w d) os) fun e w' => e = .returned v ∧ grow (redrawn w d) os = w') : Calls P f args (grow (redrawn w d) os) fun e w'' => e = .returned v ∧ ∃ p : Regrown, w'' = grow (redrawn w p.d) p.os :=
  h.mono fun _ _ hh => ⟨hh.1, ⟨d, os⟩, hh.2.symm⟩
theorem regrown_bool_pure {P : Program} {f : FuncId} {args : Array Value} {w : World} {d : Nat} {os : Array Obj} {b r : Bool}
    (h : Calls P f args (grow (redrawn w d) os) fun e w' => e = .returned (.bool b) ∧ grow (redrawn w d) os = w') (hb : b = r) : Calls P f args (grow (redrawn w d) os) fun e w'' => e = .returned (.bool r) ∧ ∃ p : Regrown, w'' = grow (redrawn w p.d) p.os := by
  subst hb; exact regrown_of_pure h
theorem below_grow {B : Nat} {a w : World} (h : Below B a w) (hB : B ≤ w.heap.size) (d : Nat) (os : Array Obj) : Below B a (grow (redrawn w d) os) := h.trans ((below_regrown w d os).mono hB)
theorem lt_regrown {w : World} {b : Nat} (h : b < w.heap.size) (d : Nat) (os : Array Obj) : b < (grow (redrawn w d) os).heap.size := Nat.lt_of_lt_of_le h (below_regrown w d os).size
theorem below_of_regrown {w w' : World} (h : ∃ p : Regrown, w' = grow (redrawn w p.d) p.os) : Below w.heap.size w w' := by obtain ⟨p, rfl⟩ := h; exact below_regrown w p.d p.os
theorem below_cell {w w' : World} (h : Below w.heap.size w w') {b o : Nat} (hb : b < w.heap.size) {v : Value} (hv : w.cell? ⟨b, o, none⟩ = some v) : w'.cell? ⟨b, o, none⟩ = some v := (h.cell (p := ⟨b, o, none⟩) hb).trans hv
def Since (w w' : World) : Prop := Below w.heap.size w w'
theorem since_of {w w' : World} (h : Below w.heap.size w w') : Since w w' := h
theorem Since.out {w w' : World} (h : Since w w') : Below w.heap.size w w' := h
theorem cellr {w : World} {a : Addr} {v : Value} (h : w.cell? a = some v) : ∀ (d : Nat) (os : Array Obj), (grow (redrawn w d) os).cell? a = some v := cell_regrown h

theorem quiet_bool {P : Program} {f : FuncId} {args : Array Value} {w : World} {n : Nat} {b r : Bool} (h : Calls P f args (w.drewN n) fun e w' => e = .returned (.bool b) ∧ w.drewN n = w') (hb : b = r) : Calls P f args (w.drewN n) fun e w'' => e = .returned (.bool r) ∧ ∃ m, w'' = w.drewN m :=
  h.mono fun _ _ hh => ⟨by rw [← hb]; exact hh.1, n, hh.2.symm⟩
theorem quiet_val {P : Program} {f : FuncId} {args : Array Value} {w : World} {n : Nat} {v : Value} (h : Calls P f args (w.drewN n) fun e w' => e = .returned v ∧ w.drewN n = w') : Calls P f args (w.drewN n) fun e w'' => e = .returned v ∧ ∃ m, w'' = w.drewN m :=
  h.mono fun _ _ hh => ⟨hh.1, n, hh.2.symm⟩

theorem quiet_boolN {P : Program} {f : FuncId} {args : Array Value} {w : World} {N n : Nat} {b r : Bool} (h : Calls P f args (w.drewN (N + n)) fun e w' => e = .returned (.bool b) ∧ w.drewN (N + n) = w') (hb : b = r) : Calls P f args (w.drewN (N + n)) fun e w'' => e = .returned (.bool r) ∧ ∃ m, w'' = w.drewN (N + m) :=
  h.mono fun _ _ hh => ⟨by rw [← hb]; exact hh.1, n, hh.2.symm⟩
theorem quiet_valN {P : Program} {f : FuncId} {args : Array Value} {w : World} {N n : Nat} {v : Value} (h : Calls P f args (w.drewN (N + n)) fun e w' => e = .returned v ∧ w.drewN (N + n) = w') : Calls P f args (w.drewN (N + n)) fun e w'' => e = .returned v ∧ ∃ m, w'' = w.drewN (N + m) :=
  h.mono fun _ _ hh => ⟨hh.1, n, hh.2.symm⟩

/-! ### all below a number -/
def allB (p : Nat → Bool) : Nat → Bool
  | 0 => true
  | n + 1 => allB p n && p n
theorem allB_true {p : Nat → Bool} : ∀ {n : Nat}, (∀ i, i < n → p i = true) → allB p n = true
  | 0, _ => rfl
  | n + 1, h => by simp only [allB, allB_true (n := n) fun i hi => h i (by omega), h n (by omega)]; rfl
theorem allB_false {p : Nat → Bool} {k : Nat} (hk : p k = false) : ∀ {n : Nat}, k < n → allB p n = false
  | 0, h => by omega
  | n + 1, h => by
    by_cases e : k = n
    · subst e; simp [allB, hk]
    · simp [allB, allB_false hk (n := n) (by omega)]
theorem of_allB {p : Nat → Bool} : ∀ {n : Nat}, allB p n = true → ∀ i, i < n → p i = true
  | 0, _, i, hi => by omega
  | n + 1, h, i, hi => by
    simp only [allB, Bool.and_eq_true] at h
    by_cases e : i = n
    · subst e; exact h.2
    · exact of_allB h.1 i (by omega)

theorem all_one {p : Nat → Bool} (h : p 0 = true) : ∀ i, i < 1 → p i = true := fun i hi => by
  have e : i = 0 := by omega
  subst e; exact h
theorem all_snoc {p : Nat → Bool} {k : Nat} (h : ∀ i, i < k → p i = true) (hk : p k = true) : ∀ i, i < k + 1 → p i = true := fun i hi => by
  by_cases e : i = k
  · subst e; exact hk
  · exact h i (by omega)

/-! ### lists whose elements are valid and whose keys rise -/
def keyAt {α : Type} (key : α → ByteArray) (xs : List α) (k : Nat) : List UInt8 := match xs[k]? with | some x => (key x).toList | none => []
def oneAt {α : Type} (one : α → Bool) (xs : List α) (k : Nat) : Bool := match xs[k]? with | some x => one x | none => false
def stepB {α : Type} (one : α → Bool) (key : α → ByteArray) (xs : List α) (k : Nat) : Bool := oneAt one xs k && !(decide (0 < k) && !(Op.bytesLess (keyAt key xs (k - 1)) (keyAt key xs k)))
def risesB {α : Type} (one : α → Bool) (key : α → ByteArray) (most : Int) (xs : List α) : Bool := allB (stepB one key xs) xs.length && decide ((xs.length : Int) ≤ most)
theorem keyAt_get {α : Type} (key : α → ByteArray) (xs : List α) (k : Nat) (h : k < xs.length) : keyAt key xs k = (key xs[k]).toList := by simp [keyAt, h]
theorem oneAt_get {α : Type} (one : α → Bool) (xs : List α) (k : Nat) (h : k < xs.length) : oneAt one xs k = one xs[k] := by simp [oneAt, h]
theorem stepB_zero {α : Type} (one : α → Bool) (key : α → ByteArray) (xs : List α) (h : 0 < xs.length) : stepB one key xs 0 = one xs[0] := by simp [stepB, oneAt_get one xs 0 h]
theorem stepB_pos {α : Type} (one : α → Bool) (key : α → ByteArray) (xs : List α) (k : Nat) (h : k < xs.length) (h0 : 0 < k) : stepB one key xs k = (one xs[k] && Op.bytesLess (key xs[k - 1]).toList (key xs[k]).toList) := by
  simp [stepB, oneAt_get one xs k h, keyAt_get key xs k h, keyAt_get key xs (k - 1) (by omega), h0]

/-! ### strings -/
theorem str_len (s : ByteArray) : s.toList.length = s.size := by rw [ByteArray.toList_eq]; rfl
theorem str_drop (s : ByteArray) (k : Nat) (h : k < s.size) : s.toList.drop k = s[k] :: s.toList.drop (k + 1) := by
  rw [ByteArray.toList_eq]; exact List.drop_eq_getElem_cons (by simpa using h)
theorem str_all (s : ByteArray) (p : UInt8 → Bool) (k : Nat) (h : k < s.size) : (s.toList.drop k).all p = (p s[k] && (s.toList.drop (k + 1)).all p) := by
  rw [str_drop s k h]; rfl
theorem str_all_end (s : ByteArray) (p : UInt8 → Bool) (k : Nat) (h : s.size ≤ k) : (s.toList.drop k).all p = true := by
  rw [List.drop_eq_nil_of_le (by rw [str_len]; exact h)]; rfl
theorem str_get0 (s : ByteArray) (d : UInt8) (h : 0 < s.size) : s.toList.getD 0 d = s[0] := by
  have := str_drop s 0 h
  simp at this; rw [this]; rfl
theorem str_pos (s : ByteArray) (h : s.toList.isEmpty = false) : 0 < s.size := by
  rw [← str_len]; cases hh : s.toList
  · rw [hh] at h; simp at h
  · simp

/-! ### numbers in a range -/
def inB (n lo hi : Int) : Bool := decide (lo ≤ n ∧ n ≤ hi)
theorem inB_true {n lo hi : Int} (h : inB n lo hi = true) : lo ≤ n ∧ n ≤ hi := by simpa [inB] using h
theorem inB_of {n lo hi : Int} (h : lo ≤ n) (h' : n ≤ hi) : inB n lo hi = true := by simp [inB, h, h']
theorem inB_false {n lo hi : Int} (h : inB n lo hi = false) : n < lo ∨ hi < n := by simp [inB] at h; omega
def szV (n m : Int) : Int := if n - m < 0 then -1 else n - m
theorem szV_le (n m : Int) (h : n ≤ 1048576) (hm : 0 ≤ m) : szV n m ≤ 1048576 := by unfold szV; split <;> omega
theorem szV_ge (n m : Int) : -1 ≤ szV n m := by unfold szV; split <;> omega
theorem szV_pos {n m : Int} (h : 0 ≤ szV n m) : m ≤ n ∧ szV n m = n - m := by unfold szV at h ⊢; split at h <;> split <;> omega
theorem mul_bd {a b A B : Int} (h0 : 0 ≤ a) (h1 : a ≤ A) (h2 : 0 ≤ b) (h3 : b ≤ B) : 0 ≤ a * b ∧ a * b ≤ A * B := ⟨Int.mul_nonneg h0 h2, Int.mul_le_mul h1 h3 h2 (by omega)⟩
theorem all_drop {α : Type} (p : α → Bool) (xs : List α) (k : Nat) (h : k < xs.length) : (xs.drop k).all p = (p xs[k] && (xs.drop (k + 1)).all p) := by rw [drop_cons xs k h]; rfl
theorem pred_nat {k : Nat} (_h : 0 < k) : ((k : Int) - 1).toNat = k - 1 := by omega
theorem pred_wrap {k n : Nat} (h : 0 < k) (h2 : k ≤ n) (hn : n ≤ 9223372036854775807) : IntKind.i64.wrap ((k : Int) - 1) = (k : Int) - 1 := IntWalk.i64_in _ (by omega)
theorem szV_cases (n m : Int) (hm : 0 ≤ m) : szV n m < 0 ∨ (0 ≤ szV n m ∧ m ≤ n ∧ szV n m ≤ n) := by unfold szV; split <;> omega
theorem szV_neg {n m : Int} (h : szV n m < 0) : n - m < 0 := by unfold szV at h; split at h <;> omega
theorem szV_eq_neg {n m : Int} (h : n - m < 0) : -1 = szV n m := by unfold szV; rw [if_pos h]
theorem szV_eq_pos {n m : Int} (h : 0 ≤ n - m) : szV n m = n - m := by unfold szV; rw [if_neg (by omega)]
end Go.Proofs.Ytjibilibdjfdcaa
