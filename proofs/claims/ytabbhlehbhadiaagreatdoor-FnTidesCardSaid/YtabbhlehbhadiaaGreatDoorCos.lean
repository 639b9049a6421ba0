/- The table of sines, and the cosines of 0 to 180 degrees, on both sides. -/
import Derived.Test.YtabbhlehbhadiaaGreatDoorNames
import Derived.Test.YtabbhlehbhadiaaGreatDoorMark
import Derived.Test.YtabbhlehbhadiaaGreatDoorTab
import Derived.Test.YtabbhlehbhadiaaGreatDoorPush
import Derived.Test.YtabbhlehbhadiaaGreatDoorTInt64
namespace Go.Proofs.YtabbhlehbhadiaaGreatDoor
open Go.RowKit Go.Sort
set_option maxRecDepth 100000

def sinL : List Int := [0, 17452, 34899, 52336, 69756, 87156, 104528, 121869, 139173, 156434, 173648, 190809, 207912, 224951, 241922, 258819, 275637, 292372, 309017, 325568, 342020, 358368, 374607, 390731, 406737, 422618, 438371, 453990, 469472, 484810, 500000, 515038, 529919, 544639, 559193, 573576, 587785, 601815, 615661, 629320, 642788, 656059, 669131, 681998, 694658, 707107, 719340, 731354, 743145, 754710, 766044, 777146, 788011, 798636, 809017, 819152, 829038, 838671, 848048, 857167, 866025, 874620, 882948, 891007, 898794, 906308, 913545, 920505, 927184, 933580, 939693, 945519, 951057, 956305, 961262, 965926, 970296, 974370, 978148, 981627, 984808, 987688, 990268, 992546, 994522, 996195, 997564, 998630, 999391, 999848, 1000000]
theorem sinL_len : sinL.length = 91 := by decide
theorem sinL_all : (sinL.all fun x => decide (0 ≤ x ∧ x ≤ 1000000)) = true := by decide +kernel
def sinV (k : Nat) : Int := sinL.getD k 0
theorem sinV_bd (k : Nat) : 0 ≤ sinV k ∧ sinV k ≤ 1000000 := by
  unfold sinV
  by_cases h : k < sinL.length
  · have := List.all_eq_true.1 sinL_all sinL[k] (List.getElem_mem h)
    simp only [List.getD_eq_getElem?_getD, List.getElem?_eq_getElem h, Option.getD_some]
    simpa using this
  · simp [List.getD_eq_getElem?_getD, List.getElem?_eq_none (Nat.le_of_not_lt h)]
/-- the cosine of 0 to 180 degrees -/
def cosV (d : Nat) : Int := if d ≤ 90 then sinV (90 - d) else -(sinV (d - 90))
theorem cosV_bd (d : Nat) : -1000000 ≤ cosV d ∧ cosV d ≤ 1000000 := by
  unfold cosV; have := sinV_bd (90 - d); have := sinV_bd (d - 90); split <;> omega
def cosL (n : Nat) : List Int := (List.range n).map cosV
@[simp] theorem cosL_len (n : Nat) : (cosL n).length = n := by simp [cosL]
theorem cosL_get {n i : Nat} (h : i < (cosL n).length) : (cosL n)[i] = cosV i := by simp [cosL]
theorem cosL_snoc (n : Nat) : cosL (n + 1) = cosL n ++ [cosV n] := by simp [cosL, List.range_succ]
/-- the sine of 90 to 270 degrees, as a walk meets it -/
theorem cosV_lo {d : Nat} (h : d ≤ 90) : cosV d = sinV (90 - d) := by rw [cosV, if_pos h]
theorem cosV_hi {d : Nat} (h : 90 ≤ d) : cosV d = -(sinV (d - 90)) := by
  unfold cosV
  by_cases e : d = 90
  · subst e; decide
  · rw [if_neg (by omega)]

def divR (a b : Int) : Int := if a < 0 then -((b - 2 * a) / (2 * b)) else (2 * a + b) / (2 * b)

theorem divR_lo {a b : Int} (h : a < 0) : divR a b = -((b - 2 * a) / (2 * b)) := if_pos h
theorem divR_hi {a b : Int} (h : 0 ≤ a) : divR a b = (2 * a + b) / (2 * b) := if_neg (by omega)
theorem divR_round {a b : Int} (h : 0 ≤ a) (hb : 0 < b) : (2 * a + b) / (2 * b) = if b - a % b ≤ a % b then a / b + 1 else a / b := by
  have h1 := Int.mul_ediv_add_emod a b
  have h2 := Int.emod_nonneg a (show b ≠ 0 by omega)
  have h3 := Int.emod_lt_of_pos a hb
  have hm : 2 * a + b = 2 * b * (a / b) + (2 * (a % b) + b) := by
    have := congrArg (fun z => 2 * z) h1
    simp only [Int.mul_add] at this
    rw [Int.mul_assoc]; omega
  rw [hm, Int.add_comm (2 * b * (a / b)), Int.add_mul_ediv_left _ _ (by omega)]
  split
  · have : (2 * (a % b) + b) / (2 * b) = 1 := by
      rw [show 2 * (a % b) + b = (2 * (a % b) - b) + 2 * b * 1 by omega, Int.add_mul_ediv_left _ _ (by omega), Int.ediv_eq_zero_of_lt (by omega) (by omega)]; rfl
    omega
  · rw [Int.ediv_eq_zero_of_lt (by omega) (by omega)]; omega
theorem divR_bd {a M : Int} (h1 : -M ≤ a) (h2 : a ≤ M) : -M - 1 ≤ divR a 2000000 ∧ divR a 2000000 ≤ M + 1 := by unfold divR; split <;> omega

theorem c_divRound (a : Int) (w : World) (h1 : -1000000000000 ≤ a) (h2 : a ≤ 1000000000000) :
    Calls Tryz.prog 72 #[.int .i64 a, .int .i64 2000000] w fun e w' => e = .returned (.int .i64 (divR a 2000000)) ∧ w = w' := by
  by_cases h : a < 0
  · obtain ⟨c, rfl⟩ : ∃ c, a = -c := ⟨-a, by omega⟩
    have H := hid (divR_lo (b := 2000000) h)
    have K := hid (divR_round (a := c) (b := 2000000) (by omega) (by omega))
    have hm : max (-c) c = c := by omega
    have hc : 0 < c := by omega
    clear h
    go_enter Tryz.func72, Tryz.ntmps72
    go_wp2
    all_goals
      go_ret
      exact ⟨ret_int (by rw [H.out, show (2000000 : Int) - 2 * -c = 2 * c + 2000000 by omega, K.out]; first | rw [if_pos (by omega)] | rw [if_neg (by omega)]), rfl⟩
  · have H := hid (divR_hi (a := a) (b := 2000000) (by omega))
    have K := hid (divR_round (a := a) (b := 2000000) (by omega) (by omega))
    have hm : max a (-a) = a := by omega
    go_enter Tryz.func72, Tryz.ntmps72
    go_wp2
    all_goals
      go_ret
      exact ⟨ret_int (by rw [H.out, K.out]; first | rw [if_pos (by omega)] | rw [if_neg (by omega)]), rfl⟩

theorem c_turned (d : Int) (w : World) (h0 : 0 ≤ d) (h1 : d ≤ 1000000000000) :
    Calls Tryz.prog 61 #[.int .i64 d] w fun e w' => e = .returned (.int .i64 (d % 360)) ∧ w = w' := by
  go_enter Tryz.func61, Tryz.ntmps61
  go_wp2
  go_ret
  exact ⟨ret_int (by omega), rfl⟩

def quarterA : Array Value := (sinL.map (Value.int .i64)).toArray
theorem run_index_quarter (k : Nat) (h : k < 91) (w : World) : (Instr.index 147 (.agg quarterA) (.int .i64 k)).run Tryz.prog w = .ok (.int .i64 (sinV k)) w := by
  have hu : Tryz.prog.underlying 147 = some (.array 91 2) := Tryz.underlying147
  have hc : Tryz.prog.cellsOf 2 = 1 := by kernel_rfl
  have hs : sinV k = sinL[k]'(by rw [sinL_len]; exact h) := by simp [sinV, sinL_len, h]
  have hk : (k : Int) < 91 := by omega
  simp [Instr.index, run_underlying hu, asIntOf, go_sem, hc, quarterA, List.getElem?_eq_getElem (show k < sinL.length by rw [sinL_len]; exact h), hs, hk]
  intro h'; omega
theorem c_quarter (k : Nat) (w : World) (h : k < 91) :
    Calls Tryz.prog 105 #[.int .i64 k] w fun e w' => e = .returned (.int .i64 (sinV k)) ∧ w = w' := by
  have hr := run_index_quarter k h
  go_enter Tryz.func105, Tryz.ntmps105
  go_wp2_with (first | (refine wpList_buildC rfl _ _ rfl quarterA (by kernel_rfl) ?_))
  go_ret
  exact ⟨rfl, rfl⟩
theorem c_quarterI (d : Int) (w : World) (h0 : 0 ≤ d) (h : d ≤ 90) :
    Calls Tryz.prog 105 #[.int .i64 d] w fun e w' => e = .returned (.int .i64 (sinV d.toNat)) ∧ w = w' := by
  obtain ⟨k, rfl⟩ := Int.eq_ofNat_of_zero_le h0
  exact c_quarter k w (by omega)
theorem c_turned_id (d : Int) (w : World) (h0 : 0 ≤ d) (h1 : d < 360) :
    Calls Tryz.prog 61 #[.int .i64 d] w fun e w' => e = .returned (.int .i64 d) ∧ w = w' :=
  (c_turned d w h0 (by omega)).mono fun e w' h => ⟨by rw [h.1]; exact ret_int (by omega), h.2⟩
/-- the sine of 0 to 179 degrees -/
theorem c_Sine_lo (d : Int) (w : World) (h0 : 0 ≤ d) (h1 : d < 180) :
    Calls Tryz.prog 92 #[.int .i64 d] w fun e w' => e = .returned (.int .i64 (sinV (if 90 < d then 180 - d else d).toNat)) ∧ w = w' := by
  by_cases h : 90 < d
  · go_enter Tryz.func92, Tryz.ntmps92
    go_wp2_with (first | (go_at_call 61; refine (c_turned_id _ _ (by omega) (by omega)).mono ?_; rintro e w' ⟨rfl, rfl⟩) | (go_at_call 105; refine (c_quarterI _ _ (by omega) (by omega)).mono ?_; rintro e w' ⟨rfl, rfl⟩))
    go_ret
    exact ⟨rfl, rfl⟩
  · go_enter Tryz.func92, Tryz.ntmps92
    go_wp2_with (first | (go_at_call 61; refine (c_turned_id _ _ (by omega) (by omega)).mono ?_; rintro e w' ⟨rfl, rfl⟩) | (go_at_call 105; refine (c_quarterI _ _ (by omega) (by omega)).mono ?_; rintro e w' ⟨rfl, rfl⟩))
    go_ret
    exact ⟨rfl, rfl⟩
theorem c_Sine (d : Nat) (w : World) (h1 : d ≤ 180) :
    Calls Tryz.prog 92 #[.int .i64 ((d : Int) + 90)] w fun e w' => e = .returned (.int .i64 (cosV d)) ∧ w = w' := by
  by_cases h : d < 90
  · refine (c_Sine_lo _ w (by omega) (by omega)).mono ?_
    rintro e w' ⟨rfl, rfl⟩
    refine ⟨ret_int ?_, rfl⟩
    rw [cosV_lo (by omega)]
    congr 1
    split <;> omega
  · have H := hid (show cosV d = -(sinV (if 90 < (d : Int) + 90 - 180 then 180 - ((d : Int) + 90 - 180) else (d : Int) + 90 - 180).toNat) by rw [cosV_hi (by omega), if_neg (by omega)]; congr 2; omega)
    have B := sinV_bd (if 90 < (d : Int) + 90 - 180 then 180 - ((d : Int) + 90 - 180) else (d : Int) + 90 - 180).toNat
    obtain ⟨s, hs⟩ : ∃ s, s = sinV (if 90 < (d : Int) + 90 - 180 then 180 - ((d : Int) + 90 - 180) else (d : Int) + 90 - 180).toNat := ⟨_, rfl⟩
    rw [← hs] at H B
    have C : Calls Tryz.prog 92 #[.int .i64 ((d : Int) + 90 - 180)] w fun e w' => e = .returned (.int .i64 s) ∧ w = w' := by
      exact (c_Sine_lo _ w (by omega) (by omega)).mono fun e w' h => ⟨by rw [h.1, hs], h.2⟩
    clear hs
    go_enter Tryz.func92, Tryz.ntmps92
    go_wp2_with (first | (go_at_call 61; refine (c_turned_id _ _ (by omega) (by omega)).mono ?_; rintro e w' ⟨rfl, rfl⟩) | (go_at_call 92; refine C.mono ?_; rintro e w' ⟨rfl, rfl⟩))
    go_ret
    exact ⟨ret_int H.out.symm, rfl⟩
theorem c_Cosine (d : Int) (w : World) (h0 : 0 ≤ d) (h1 : d ≤ 180) :
    Calls Tryz.prog 73 #[.int .i64 d] w fun e w' => e = .returned (.int .i64 (cosV d.toNat)) ∧ w = w' := by
  obtain ⟨k, rfl⟩ := Int.eq_ofNat_of_zero_le h0
  go_enter Tryz.func73, Tryz.ntmps73
  go_wp2_with (first | (go_at_call 61; refine (c_turned_id _ _ (by omega) (by omega)).mono ?_; rintro e w' ⟨rfl, rfl⟩) | (go_at_call 92; refine (c_Sine k _ (by omega)).mono ?_; rintro e w' ⟨rfl, rfl⟩))
  go_ret
  exact ⟨rfl, rfl⟩

/-! ### the other side: tables in memory -/
theorem quarterA_eq : quarterA = (sinL.flatMap encI).toArray := by rw [flat_encI]; rfl
/-! ### all cosines -/
end Go.Proofs.YtabbhlehbhadiaaGreatDoor
