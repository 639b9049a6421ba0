/- What the small functions on names and ranges compute. -/
import Derived.Test.YtjibilibdjfdcaaBase
namespace Go.Proofs.Ytjibilibdjfdcaa
open Go.RowKit

def smallB (c : UInt8) : Bool := decide (97 ≤ (c.toNat : Int) ∧ (c.toNat : Int) ≤ 122)
def digitB (c : UInt8) : Bool := decide (48 ≤ (c.toNat : Int) ∧ (c.toNat : Int) ≤ 57)
def nameCh (c : UInt8) : Bool := smallB c || digitB c
def nameB (s : ByteArray) : Bool := !s.toList.isEmpty && decide ((s.size : Int) ≤ 10) && smallB (s.toList.getD 0 0) && s.toList.all nameCh

theorem c_l00In (n lo hi : Int) (w : World) :
    Calls Try.prog 25 #[.int .i64 n, .int .i64 lo, .int .i64 hi] w fun e w' => e = .returned (.bool (inB n lo hi)) ∧ w = w' := by
  go_enter Try.func25, Try.ntmps25
  go_wp2
  all_goals (go_ret; simp [inB, *]; try omega)
theorem q_l00In {n lo hi : Int} {r : Bool} (w : World) (h : inB n lo hi = r) :
    Calls Try.prog 25 #[.int .i64 n, .int .i64 lo, .int .i64 hi] w fun e w' => e = .returned (.bool r) ∧ w' = w :=
  (c_l00In n lo hi w).mono fun _ _ hh => ⟨by rw [← h]; exact hh.1, hh.2.symm⟩


theorem c_within (n lo hi : Int) (w : World) :
    Calls Try.prog 37 #[.int .i64 n, .int .i64 lo, .int .i64 hi] w fun e w' => e = .returned (.bool (inB n lo hi)) ∧ w = w' := by
  go_enter Try.func37, Try.ntmps37
  go_wp2
  all_goals (go_ret; simp [inB, *]; try omega)
theorem q_within {n lo hi : Int} {r : Bool} (w : World) (h : inB n lo hi = r) :
    Calls Try.prog 37 #[.int .i64 n, .int .i64 lo, .int .i64 hi] w fun e w' => e = .returned (.bool r) ∧ w' = w :=
  (c_within n lo hi w).mono fun _ _ hh => ⟨by rw [← h]; exact hh.1, hh.2.symm⟩






theorem nameB_ok {s : ByteArray} (h0 : s.toList.isEmpty = false) (h1 : (s.size : Int) ≤ 10) (h2 : smallB (s.toList.getD 0 0) = true) : nameB s = (s.toList.drop 0).all nameCh := by
  simp only [nameB, h0, h1, h2]; simp


/-- one byte of a name at place k -/
def nameAt (k : Nat) (c : UInt8) : Bool := smallB c || (decide (k ≠ 0) && digitB c)
def nameFrom : Nat → List UInt8 → Bool
  | _, [] => true
  | k, c :: l => nameAt k c && nameFrom (k + 1) l
theorem nameFrom_pos (l : List UInt8) : ∀ k, 0 < k → nameFrom k l = l.all nameCh := by
  induction l with
  | nil => intro k _; rfl
  | cons c l ih => intro k hk; simp only [nameFrom, ih (k + 1) (by omega), List.all_cons, nameAt, nameCh]; congr 1; simp [show k ≠ 0 from by omega]
theorem nameFrom_step (s : ByteArray) (k : Nat) (h : k < s.size) : nameFrom k (s.toList.drop k) = (nameAt k s[k] && nameFrom (k + 1) (s.toList.drop (k + 1))) := by
  rw [str_drop s k h]; rfl
theorem nameFrom_end (s : ByteArray) (k : Nat) (h : s.size ≤ k) : nameFrom k (s.toList.drop k) = true := by
  rw [List.drop_eq_nil_of_le (by rw [str_len]; exact h)]; rfl
theorem nameB_from (s : ByteArray) : nameB s = (nameFrom 0 s.toList && (!s.toList.isEmpty && decide ((s.size : Int) ≤ 10))) := by
  unfold nameB
  cases h : s.toList with
  | nil => simp
  | cons c l =>
    simp only [nameFrom, nameFrom_pos l 1 (by omega), nameAt, List.all_cons, nameCh]
    simp
    cases smallB c <;> simp
    exact Bool.and_comm _ _

theorem small_cases (c : UInt8) : ((c.toNat : Int) < 97 ∧ smallB c = false) ∨ (97 ≤ (c.toNat : Int) ∧ decide ((c.toNat : Int) ≤ 122) = false ∧ smallB c = false) ∨ (97 ≤ (c.toNat : Int) ∧ decide ((c.toNat : Int) ≤ 122) = true ∧ smallB c = true) := by
  unfold smallB
  by_cases h : 97 ≤ (c.toNat : Int) <;> by_cases h2 : (c.toNat : Int) ≤ 122 <;> simp [h, h2] <;> omega

end Go.Proofs.Ytjibilibdjfdcaa
