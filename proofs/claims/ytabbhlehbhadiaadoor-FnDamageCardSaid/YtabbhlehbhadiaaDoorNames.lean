/- What the small functions on names and ranges compute. -/
import Derived.Test.YtabbhlehbhadiaaDoorBase
namespace Go.Proofs.YtabbhlehbhadiaaDoor
open Go.RowKit

def smallB (c : UInt8) : Bool := decide (97 ≤ (c.toNat : Int) ∧ (c.toNat : Int) ≤ 122)
def digitB (c : UInt8) : Bool := decide (48 ≤ (c.toNat : Int) ∧ (c.toNat : Int) ≤ 57)
def nameCh (c : UInt8) : Bool := smallB c || digitB c
def nameB (s : ByteArray) : Bool := !s.toList.isEmpty && decide ((s.size : Int) ≤ 10) && smallB (s.toList.getD 0 0) && s.toList.all nameCh

theorem c_l00In (n lo hi : Int) (w : World) :
    Calls Tryd.prog 21 #[.int .i64 n, .int .i64 lo, .int .i64 hi] w fun e w' => e = .returned (.bool (inB n lo hi)) ∧ w = w' := by
  go_enter Tryd.func21, Tryd.ntmps21
  go_wp2
  all_goals (go_ret; simp [inB, *]; try omega)
theorem q_l00In {n lo hi : Int} {r : Bool} (w : World) (h : inB n lo hi = r) :
    Calls Tryd.prog 21 #[.int .i64 n, .int .i64 lo, .int .i64 hi] w fun e w' => e = .returned (.bool r) ∧ w' = w :=
  (c_l00In n lo hi w).mono fun _ _ hh => ⟨by rw [← h]; exact hh.1, hh.2.symm⟩


theorem c_within (n lo hi : Int) (w : World) :
    Calls Tryd.prog 41 #[.int .i64 n, .int .i64 lo, .int .i64 hi] w fun e w' => e = .returned (.bool (inB n lo hi)) ∧ w = w' := by
  go_enter Tryd.func41, Tryd.ntmps41
  go_wp2
  all_goals (go_ret; simp [inB, *]; try omega)
theorem q_within {n lo hi : Int} {r : Bool} (w : World) (h : inB n lo hi = r) :
    Calls Tryd.prog 41 #[.int .i64 n, .int .i64 lo, .int .i64 hi] w fun e w' => e = .returned (.bool r) ∧ w' = w :=
  (c_within n lo hi w).mono fun _ _ hh => ⟨by rw [← h]; exact hh.1, hh.2.symm⟩


theorem c_few (n most : Int) (w : World) :
    Calls Tryd.prog 54 #[.int .i64 n, .int .i64 most] w fun e w' => e = .returned (.bool (decide (n ≤ most))) ∧ w = w' := by
  go_enter Tryd.func54, Tryd.ntmps54
  go_wp2
  all_goals (go_ret; simp [*])

theorem c_l01Small (c : UInt8) (w : World) :
    Calls Tryd.prog 45 #[.int .u8 c.toNat] w fun e w' => e = .returned (.bool (smallB c)) ∧ w = w' := by
  go_enter Tryd.func45, Tryd.ntmps45
  go_wp2
  all_goals (go_ret; simp [smallB, *]; try omega)

theorem c_l01Digit (c : UInt8) (w : World) :
    Calls Tryd.prog 46 #[.int .u8 c.toNat] w fun e w' => e = .returned (.bool (digitB c)) ∧ w = w' := by
  go_enter Tryd.func46, Tryd.ntmps46
  go_wp2
  all_goals (go_ret; simp [digitB, *]; try omega)

theorem c_isDigit (c : UInt8) (w : World) :
    Calls Tryd.prog 53 #[.int .u8 c.toNat] w fun e w' => e = .returned (.bool (digitB c)) ∧ w = w' := by
  go_enter Tryd.func53, Tryd.ntmps53
  go_wp2
  all_goals (go_ret; simp [digitB, *]; try omega)

theorem nameB_ok {s : ByteArray} (h0 : s.toList.isEmpty = false) (h1 : (s.size : Int) ≤ 10) (h2 : smallB (s.toList.getD 0 0) = true) : nameB s = (s.toList.drop 0).all nameCh := by
  simp only [nameB, h0, h1, h2]; simp

set_option maxHeartbeats 400000 in
theorem c_l01Name (s : ByteArray) (w : World) (hs : s.size ≤ maxLen) :
    Calls Tryd.prog 37 #[.string s] w fun e w' => e = .returned (.bool (nameB s)) ∧ w = w' := by
  unfold maxLen at hs
  cases h0 : s.toList.isEmpty
  · have hp := str_pos s h0
    have hg := hid (str_get0 s 0 hp)
    cases h2 : smallB s[0]
    · go_enter Tryd.func37, Tryd.ntmps37
      go_wp2_with (first | (go_at_call 45; refine (c_l01Small _ _).mono ?_; rintro e w' ⟨rfl, rfl⟩) | (go_at_call 46; refine (c_l01Digit _ _).mono ?_; rintro e w' ⟨rfl, rfl⟩))
      all_goals (go_ret; go_light; rw [nameB, hg.out, h2]; simp)
    · go_enter Tryd.func37, Tryd.ntmps37
      go_wp2_with (first | (go_at_call 45; refine (c_l01Small _ _).mono ?_; rintro e w' ⟨rfl, rfl⟩) | (go_at_call 46; refine (c_l01Digit _ _).mono ?_; rintro e w' ⟨rfl, rfl⟩))
      · have h1 : (s.size : Int) ≤ 10 := by assumption
        have HN := hid (nameB_ok h0 h1 (by rw [hg.out]; exact h2))
        go_loop [3] (fun i => ∃ k : Nat, k ≤ s.size ∧ i = .int .i64 k ∧ nameB s = (s.toList.drop k).all nameCh) (fun i => s.size - (intOf i).toNat)
        case atStart => exact ⟨0, Nat.zero_le _, rfl, HN.out⟩
        case round =>
          clear HN
          obtain ⟨k, hk, rfl, hn⟩ := hrel
          by_cases hlt : k < s.size
          · have HA := hid (hn.trans (str_all s nameCh k hlt)); clear hn
            go_wp2_with (first | (go_at_call 45; refine (c_l01Small _ _).mono ?_; rintro e w' ⟨rfl, rfl⟩) | (go_at_call 46; refine (c_l01Digit _ _).mono ?_; rintro e w' ⟨rfl, rfl⟩))
            · go_round
              case rel => exact ⟨k+1, by omega, by go_num, by rw [HA.out]; simp [nameCh, *]⟩
              case measure => simp [intOf]; omega
            · go_ret
              go_light
              simp_all [nameCh, HA.out]
            · go_round
              case rel => exact ⟨k+1, by omega, by go_num, by rw [HA.out]; simp_all [nameCh]⟩
              case measure => simp [intOf]; omega
          · have HA := hid (hn.trans (str_all_end s nameCh k (by omega))); clear hn
            go_wp2
            go_ret
            simp [HA.out]
      · go_ret
        go_light
        simp_all [nameB]; omega
  · go_enter Tryd.func37, Tryd.ntmps37
    go_wp2
    go_ret
    simp [nameB, h0]

/-- one byte of a name at place k -/
def nameAt (k : Nat) (c : UInt8) : Bool := smallB c || (decide (k ≠ 0) && digitB c)
def nameFrom : Nat → List UInt8 → Bool
  | _, [] => true
  | k, c :: l => nameAt k c && nameFrom (k + 1) l
theorem nameFrom_pos (l : List UInt8) : ∀ k, 0 < k → nameFrom k l = l.all nameCh := by
  induction l with
  | nil => intro k _; rfl
  | cons c l ih => intro k hk; simp only [nameFrom, ih (k + 1) (by omega), List.all_cons, nameAt, nameCh]; congr 1; simp [show k ≠ 0 from by omega]
theorem nameFrom_step (s : ByteArray) (k : Nat) (h : k < s.size) : nameFrom k (s.toList.drop k) = (nameAt k s[k] && nameFrom (k + 1) (s.toList.drop (k + 1))) := by
  rw [str_drop s k h]; rfl
theorem nameFrom_end (s : ByteArray) (k : Nat) (h : s.size ≤ k) : nameFrom k (s.toList.drop k) = true := by
  rw [List.drop_eq_nil_of_le (by rw [str_len]; exact h)]; rfl
theorem nameB_from (s : ByteArray) : nameB s = (nameFrom 0 s.toList && (!s.toList.isEmpty && decide ((s.size : Int) ≤ 10))) := by
  unfold nameB
  cases h : s.toList with
  | nil => simp
  | cons c l =>
    simp only [nameFrom, nameFrom_pos l 1 (by omega), nameAt, List.all_cons, nameCh]
    simp
    cases smallB c <;> simp
    exact Bool.and_comm _ _

theorem small_cases (c : UInt8) : ((c.toNat : Int) < 97 ∧ smallB c = false) ∨ (97 ≤ (c.toNat : Int) ∧ decide ((c.toNat : Int) ≤ 122) = false ∧ smallB c = false) ∨ (97 ≤ (c.toNat : Int) ∧ decide ((c.toNat : Int) ≤ 122) = true ∧ smallB c = true) := by
  unfold smallB
  by_cases h : 97 ≤ (c.toNat : Int) <;> by_cases h2 : (c.toNat : Int) ≤ 122 <;> simp [h, h2] <;> omega

set_option maxHeartbeats 400000 in
theorem c_IsName (s : ByteArray) (w : World) (hs : s.size ≤ maxLen) :
    Calls Tryd.prog 43 #[.string s] w fun e w' => e = .returned (.bool (nameB s)) ∧ w = w' := by
  unfold maxLen at hs
  have HB := hid (nameB_from s)
  go_enter Tryd.func43, Tryd.ntmps43
  go_wp2_with (first | (go_at_call 53; refine (c_isDigit _ _).mono ?_; rintro e w' ⟨rfl, rfl⟩) | (go_at_call 54; refine (c_few _ _ _).mono ?_; rintro e w' ⟨rfl, rfl⟩))
  go_loop [3] (fun i => ∃ k : Nat, k ≤ s.size ∧ i = .int .i64 k ∧ nameFrom 0 s.toList = nameFrom k (s.toList.drop k)) (fun i => s.size - (intOf i).toNat)
  case atStart => exact ⟨0, Nat.zero_le _, rfl, by simp⟩
  case round =>
    obtain ⟨k, hk, rfl, hn⟩ := hrel
    by_cases hlt : k < s.size
    · have HA := hid (hn.trans (nameFrom_step s k hlt)); clear hn
      by_cases hk0 : k = 0
      · subst hk0
        rcases small_cases s[0] with ⟨h1, hS⟩ | ⟨h1, h2, hS⟩ | ⟨h1, h2, hS⟩
        · have HS := hid hS; clear hS
          go_wp2_with (first | (go_at_call 53; refine (c_isDigit _ _).mono ?_; rintro e w' ⟨rfl, rfl⟩) | (go_at_call 54; refine (c_few _ _ _).mono ?_; rintro e w' ⟨rfl, rfl⟩))
          go_ret
          rw [HB.out, HA.out, nameAt, HS.out]; simp
        · have HS := hid hS; clear hS
          go_wp2_with (first | (go_at_call 53; refine (c_isDigit _ _).mono ?_; rintro e w' ⟨rfl, rfl⟩) | (go_at_call 54; refine (c_few _ _ _).mono ?_; rintro e w' ⟨rfl, rfl⟩))
          go_ret
          rw [HB.out, HA.out, nameAt, HS.out]; simp
        · have HS := hid hS; clear hS
          go_wp2_with (first | (go_at_call 53; refine (c_isDigit _ _).mono ?_; rintro e w' ⟨rfl, rfl⟩) | (go_at_call 54; refine (c_few _ _ _).mono ?_; rintro e w' ⟨rfl, rfl⟩))
          go_round
          case rel => exact ⟨1, by omega, rfl, by rw [HA.out, nameAt, HS.out]; simp⟩
          case measure => simp [intOf]; omega
      · have hk1 : ((k : Int) == 0) = false := by simp; omega
        cases hd : digitB s[k]
        all_goals
          have HD := hid hd
          rcases small_cases s[k] with ⟨h1, hS⟩ | ⟨h1, h2, hS⟩ | ⟨h1, h2, hS⟩
          all_goals
            have HS := hid hS; clear hS
            go_wp2_with (first | (go_at_call 53; refine (c_isDigit _ _).mono ?_; rintro e w' ⟨rfl, rfl⟩) | (go_at_call 54; refine (c_few _ _ _).mono ?_; rintro e w' ⟨rfl, rfl⟩))
            first
              | (go_ret; rw [HB.out, HA.out, nameAt, HS.out, HD.out]; simp; done)
              | (go_round
                 case rel => exact ⟨k + 1, by omega, by go_num, by rw [HA.out, nameAt, HS.out, HD.out]; simp [hk0]⟩
                 case measure => simp [intOf]; omega)
    · have HA := hid (hn.trans (nameFrom_end s k (by omega))); clear hn
      cases h0 : s.toList.isEmpty
      all_goals
        go_wp2_with (first | (go_at_call 53; refine (c_isDigit _ _).mono ?_; rintro e w' ⟨rfl, rfl⟩) | (go_at_call 54; refine (c_few _ _ _).mono ?_; rintro e w' ⟨rfl, rfl⟩))
        go_ret
        rw [HB.out, HA.out]; simp [h0]
end Go.Proofs.YtabbhlehbhadiaaDoor
