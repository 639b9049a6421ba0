/- Small lemmas that every text of this seat uses: strings as lists of bytes, worlds that grow. -/
import Derived.Test.YtpkadbkejninaaaRows
import Derived.WalkKit
import Derived.WalkSpells
import Derived.WalkLawsBesides
import Derived.Deep.Light
import Derived.Deep.QuietTactic
import Derived.BigQuiet
import Derived.Deep.DeepFit
namespace Go.Proofs.Ytpkadbkejninaaa
open Go.RowKit

theorem hid {p : Prop} (h : p) : Hid p := h
theorem below_via {B M : Nat} {a b c : World} (k : Below M b c) (hB : B ≤ M) (h : Below B a b) : Below B a c := h.trans (k.mono hB)
theorem bcell {W w1 : World} (hb : Below W.heap.size W w1) : (∀ b o, b < W.heap.size → w1.cell? ⟨b, o, none⟩ = W.cell? ⟨b, o, none⟩) ∧ (∀ b o, b < W.heap.size → w1.frozen? ⟨b, o, none⟩ = W.frozen? ⟨b, o, none⟩) :=
  ⟨fun b o h => hb.cell (p := ⟨b, o, none⟩) h, fun b o h => hb.frozen (p := ⟨b, o, none⟩) h⟩

/-! ### strings -/
theorem str_len (s : ByteArray) : s.toList.length = s.size := by rw [ByteArray.toList_eq]; rfl
theorem str_drop (s : ByteArray) (k : Nat) (h : k < s.size) : s.toList.drop k = s[k] :: s.toList.drop (k + 1) := by
  rw [ByteArray.toList_eq]; exact List.drop_eq_getElem_cons (by simpa using h)
theorem str_all (s : ByteArray) (p : UInt8 → Bool) (k : Nat) (h : k < s.size) : (s.toList.drop k).all p = (p s[k] && (s.toList.drop (k + 1)).all p) := by
  rw [str_drop s k h]; rfl
theorem str_all_end (s : ByteArray) (p : UInt8 → Bool) (k : Nat) (h : s.size ≤ k) : (s.toList.drop k).all p = true := by
  rw [List.drop_eq_nil_of_le (by rw [str_len]; exact h)]; rfl
theorem str_get0 (s : ByteArray) (d : UInt8) (h : 0 < s.size) : s.toList.getD 0 d = s[0] := by
  have := str_drop s 0 h
  simp at this; rw [this]; rfl
theorem str_pos (s : ByteArray) (h : s.toList.isEmpty = false) : 0 < s.size := by
  rw [← str_len]; cases hh : s.toList
  · rw [hh] at h; simp at h
  · simp

/-! ### numbers in a range -/
def inB (n lo hi : Int) : Bool := decide (lo ≤ n ∧ n ≤ hi)
theorem inB_true {n lo hi : Int} (h : inB n lo hi = true) : lo ≤ n ∧ n ≤ hi := by simpa [inB] using h
theorem inB_of {n lo hi : Int} (h : lo ≤ n) (h' : n ≤ hi) : inB n lo hi = true := by simp [inB, h, h']
theorem inB_false {n lo hi : Int} (h : inB n lo hi = false) : n < lo ∨ hi < n := by simp [inB] at h; omega
def szV (n m : Int) : Int := if n - m < 0 then -1 else n - m
theorem szV_le (n m : Int) (h : n ≤ 1048576) (hm : 0 ≤ m) : szV n m ≤ 1048576 := by unfold szV; split <;> omega
theorem szV_ge (n m : Int) : -1 ≤ szV n m := by unfold szV; split <;> omega
theorem szV_pos {n m : Int} (h : 0 ≤ szV n m) : m ≤ n ∧ szV n m = n - m := by unfold szV at h ⊢; split at h <;> split <;> omega
end Go.Proofs.Ytpkadbkejninaaa
