/- The reference's reading of a number. -/
import Derived.Test.YtocpgnpdnoidnaaDoorSplit
namespace Go.Proofs.YtocpgnpdnoidnaaDoor
open Go.RowKit Go.Sort
set_option linter.unusedVariables false
set_option maxRecDepth 100000

def numV (l : List UInt8) : Int := (numL l).getD 0
def numB (l : List UInt8) : Bool := (numL l).isSome
theorem num_none {l : List UInt8} (h : numL l = none) : numV l = 0 ∧ numB l = false := by simp [numV, numB, h]
theorem num_some {l : List UInt8} {v : Int} (h : numL l = some v) : numV l = v ∧ numB l = true := by simp [numV, numB, h]
theorem numV_i64 (l : List UInt8) : I64 (numV l) := by
  cases h : numL l with
  | none => rw [(num_none h).1]; unfold I64; omega
  | some v => rw [(num_some h).1]; have := numL_i64 h; unfold I64; omega
theorem num_of_true {l : List UInt8} (h : numB l = true) : numL l = some (numV l) := by
  cases h2 : numL l with
  | none => rw [(num_none h2).2] at h; cases h
  | some v => rw [(num_some h2).1]
/-- the sign's place -/
def negB (l : List UInt8) : Bool := l.head? == some 45
theorem numL_neg {r : List UInt8} : numL (45 :: r) = (if r.head? = some 48 then none else Option.map (fun u : Nat => -(u : Int)) (numU r)) := by
  show (if (some 45 : Option UInt8) = some 45 then _ else _) = _
  rw [if_pos rfl]; rfl
theorem numL_pos {l : List UInt8} (h : l.head? ≠ some 45) : numL l = (if l.head? = some 48 ∧ 1 < l.length then none else Option.map (fun u : Nat => (u : Int)) (numU l)) := by
  unfold numL; rw [if_neg h]
theorem numU_long {l : List UInt8} (h : 18 < l.length) : numU l = none := by unfold numU; rw [if_pos (.inr h)]
theorem numU_mid {l : List UInt8} (h : l.length ≠ 0) (h2 : l.length ≤ 18) : numU l = dvals 0 l := by unfold numU; rw [if_neg (by omega)]
theorem digit_yes {c : UInt8} (h : digitB c = true) : 48 ≤ c.toNat ∧ c.toNat ≤ 57 := by
  simp only [digitB, decide_eq_true_eq] at h; omega
theorem dvals_yes {n : Nat} {c : UInt8} {l : List UInt8} (h : digitB c = true) : dvals n (c :: l) = dvals (10 * n + (c.toNat - 48)) l := by
  rw [dvals, if_pos (digit_yes h)]
theorem dvals_not {n : Nat} {c : UInt8} {l : List UInt8} (h : digitB c = false) : dvals n (c :: l) = none := by
  have h2 : ¬ (48 ≤ c.toNat ∧ c.toNat ≤ 57) := by intro e; simp only [digitB, decide_eq_false_iff_not] at h; omega
  rw [dvals, if_neg h2]
def NumPost (l : List UInt8) (w : World) (e : Ending) (w' : World) : Prop := e = .returned (.tuple #[.int .i64 (numV l), .bool (numB l)]) ∧ w = w'
set_option maxHeartbeats 4000000 in
theorem c_l01Number (s : ByteArray) (w : World) (hs : (s.size : Int) ≤ 1048576) :
    Calls Tryd.prog 83 #[.string s] w fun e w' => e = .returned (.tuple #[.int .i64 (numV s.data.toList), .bool (numB s.data.toList)]) ∧ w = w' := by
  obtain ⟨l, hl⟩ : ∃ l, l = s.data.toList := ⟨_, rfl⟩
  have hll : l.length = s.size := by rw [hl]; simp
  have HG := hid (show ∀ k (h : k < s.size) (h' : k < l.length), l[k] = s[k] from fun k h h' => by subst hl; exact data_get s k h)
  rw [← hl]
  clear hl
  have HLL := hid hll
  by_cases h0 : s.size = 0
  · have HR := hid (num_none (l := l) (by
      have : l = [] := List.eq_nil_of_length_eq_zero (by omega)
      subst this; rfl))
    have hz1 : decide ((0 : Int) < (s.size : Int)) = false := decide_eq_false (by omega)
    have hz2 : ((s.size : Int) == 0) = true := by rw [h0]; rfl
    have hz3 : decide (0 < s.size) = false := decide_eq_false (by omega)
    clear hll h0
    go_enter Tryd.func83, Tryd.ntmps83
    go_wp2
    go_ret2
    rw [HR.out.1, HR.out.2]
    exact ⟨rfl, rfl⟩
  · have hp : 0 < s.size := by omega
    have hz1 : decide ((0 : Int) < (s.size : Int)) = true := decide_eq_true (by omega)
    have hz3 : decide (0 < s.size) = true := by simpa using hp
    have hz2 : ((s.size : Int) == 0) = false := by rw [beq_eq_false_iff_ne]; omega
    have hg0 : l[0]'(by omega) = s[0] := HG.out 0 hp (by omega)
    have hhead : l.head? = some s[0] := by
      cases l with
      | nil => simp at hll; omega
      | cons c r => have := HG.out 0 hp (by simp); simpa using this
    have hdr : ∀ k (h : k < s.size), l.drop k = s[k] :: l.drop (k + 1) := fun k h => by rw [List.drop_eq_getElem_cons (by omega), HG.out k h (by omega)]
    have HDR := hid hdr
    cases hm : ((s[0].toNat : Int) == 45)
    · have hne : s[0] ≠ 45 := by intro e; rw [e] at hm; simp at hm
      have hpos := numL_pos (l := l) (by rw [hhead]; intro e; exact hne (by injection e))
      by_cases h18 : 18 < s.size
      · have HR := hid (num_none (l := l) (by rw [hpos, numU_long (by omega)]; split <;> rfl))
        have hz4 : decide (18 < s.size) = true := by simpa using h18
        clear hll h0 hhead hpos hg0 hne hdr
        go_enter Tryd.func83, Tryd.ntmps83
        go_wp2
        go_ret2
        rw [HR.out.1, HR.out.2]
        exact ⟨rfl, rfl⟩
      · have hz4 : decide (18 < s.size) = false := by simpa using h18
        rw [numU_mid (by omega) (by omega)] at hpos
        have hmid : ¬ (s[0].toNat = 48 ∧ 1 < s.size) → numL l = Option.map (fun u : Nat => (u : Int)) (dvals 0 (l.drop 0)) := fun hn => by
          rw [hpos, if_neg]
          · rfl
          · rintro ⟨e1, e2⟩
            rw [hhead] at e1
            injection e1 with e1
            exact hn ⟨by rw [e1]; rfl, by omega⟩
        have hbad : s[0].toNat = 48 → 1 < s.size → numL l = none := fun e1 e2 => by
          rw [hpos, if_pos ⟨by rw [hhead]; congr 1; exact UInt8.toNat_inj.1 e1, by omega⟩]
        by_cases h48 : s[0].toNat = 48
        · have hz5 : ((s[0].toNat : Int) == 48) = true := by simp [h48]
          by_cases h1 : 1 < s.size
          · have HR := hid (num_none (hbad h48 h1))
            have hz6 : decide (1 < s.size) = true := by simpa using h1
            clear hll h0 hhead hpos hg0 hne hmid hbad h48 hdr
            go_enter Tryd.func83, Tryd.ntmps83
            go_wp2
            go_ret2
            rw [HR.out.1, HR.out.2]
            exact ⟨rfl, rfl⟩
          · have HT := hid (hmid (fun e => h1 e.2))
            have hz6 : decide (1 < s.size) = false := by simpa using h1
            have h18' : s.size ≤ 18 := by omega
            clear hll h0 hhead hpos hg0 hne hmid hbad h48 hdr
            go_enter Tryd.func83, Tryd.ntmps83
            go_wp2
            go_loopw [5, 6] (fun t i wr => ∃ (k n : Nat), 0 ≤ k ∧ k ≤ s.size ∧ i = .int .i64 k ∧ t = .int .i64 n ∧ n < 10 ^ (k - 0) ∧ Hid (dvals 0 (l.drop 0) = dvals n (l.drop k)) ∧ wr = w) (fun _ i _ => s.size - (intOf i).toNat)
            case atStart => exact ⟨0, 0, by omega, by omega, rfl, rfl, by decide, hid rfl, rfl⟩
            case round =>
              obtain ⟨k, n, hk0, hk, rfl, rfl, hn, HD, rfl⟩ := hrel
              have hn18 : n < 10 ^ 18 := Nat.lt_of_lt_of_le hn (Nat.pow_le_pow_right (by omega) (by omega))
              by_cases hlt : k < s.size
              · have hlI : (k : Int) < s.size := by omega
                have hn17 : n < 10 ^ 17 := Nat.lt_of_lt_of_le hn (Nat.pow_le_pow_right (by omega) (by omega))
                cases hdg : digitB s[k]
                · have HR := hid (num_none (l := l) (by rw [HT.out, HD.out, HDR.out k hlt, dvals_not hdg]; rfl))
                  clear hn
                  go_wp2_with (first | (go_at_call 105; refine (c_l01Digit _ _).mono ?_; rintro e w' ⟨rfl, rfl⟩))
                  go_ret2
                  rw [HR.out.1, HR.out.2]
                  exact ⟨rfl, rfl⟩
                · have hdd := digit_yes hdg
                  obtain ⟨d, hd⟩ : ∃ d : Nat, d = s[k].toNat - 48 := ⟨_, rfl⟩
                  have HN := hid (show dvals 0 (l.drop 0) = dvals (10 * n + d) (l.drop (k + 1)) by rw [HD.out, HDR.out k hlt, dvals_yes hdg, hd])
                  have hcd : (s[k].toNat : Int) - 48 = (d : Int) := by omega
                  have hd9 : d ≤ 9 := by omega
                  have hn2 := hid (show 10 * n + d < 10 ^ (k + 1 - 0) by rw [show k + 1 - 0 = (k - 0) + 1 by omega, Nat.pow_succ]; omega)
                  have hn18I : (n : Int) < 1000000000000000000 := by omega
                  have hI := hid (show wrap64 (wrap64 ((10 : Int) * (n : Int)) + (d : Int)) = ((10 * n + d : Nat) : Int) by unfold wrap64; omega)
                  clear hn hd hdd hn18 hn17
                  go_wp2_with (first | (go_at_call 105; refine (c_l01Digit _ _).mono ?_; rintro e w' ⟨rfl, rfl⟩))
                  go_roundw
                  case rel => exact ⟨k + 1, 10 * n + d, by omega, by omega, by go_num, congrArg (Value.int .i64) hI.out, hn2.out, HN, by first | rfl | trivial⟩
                  case measure => simp [intOf]; omega
              · have hke : k = s.size := by omega
                have hlN : ¬ (k : Int) < s.size := by omega
                have hnil : l.drop k = [] := List.drop_eq_nil_of_le (by rw [HLL.out]; omega)
                have HR := hid (num_some (l := l) (v := (n : Int)) (by rw [HT.out, HD.out, hnil]; rfl))
                have hn18I : (n : Int) < 1000000000000000000 := by omega
                clear hn hn18 hnil hke
                go_wp2
                go_ret2
                rw [HR.out.1, HR.out.2]
                exact ⟨rfl, rfl⟩
        · have hz5 : ((s[0].toNat : Int) == 48) = false := by rw [beq_eq_false_iff_ne]; omega
          have HT := hid (hmid (fun e => h48 e.1))
          have h18' : s.size ≤ 18 := by omega
          clear hll h0 hhead hpos hg0 hne hmid hbad h48 hdr
          go_enter Tryd.func83, Tryd.ntmps83
          go_wp2
          · skip
            go_loopw [5, 6] (fun t i wr => ∃ (k n : Nat), 0 ≤ k ∧ k ≤ s.size ∧ i = .int .i64 k ∧ t = .int .i64 n ∧ n < 10 ^ (k - 0) ∧ Hid (dvals 0 (l.drop 0) = dvals n (l.drop k)) ∧ wr = w) (fun _ i _ => s.size - (intOf i).toNat)
            case atStart => exact ⟨0, 0, by omega, by omega, rfl, rfl, by decide, hid rfl, rfl⟩
            case round =>
              obtain ⟨k, n, hk0, hk, rfl, rfl, hn, HD, rfl⟩ := hrel
              have hn18 : n < 10 ^ 18 := Nat.lt_of_lt_of_le hn (Nat.pow_le_pow_right (by omega) (by omega))
              by_cases hlt : k < s.size
              · have hlI : (k : Int) < s.size := by omega
                have hn17 : n < 10 ^ 17 := Nat.lt_of_lt_of_le hn (Nat.pow_le_pow_right (by omega) (by omega))
                cases hdg : digitB s[k]
                · have HR := hid (num_none (l := l) (by rw [HT.out, HD.out, HDR.out k hlt, dvals_not hdg]; rfl))
                  clear hn
                  go_wp2_with (first | (go_at_call 105; refine (c_l01Digit _ _).mono ?_; rintro e w' ⟨rfl, rfl⟩))
                  go_ret2
                  rw [HR.out.1, HR.out.2]
                  exact ⟨rfl, rfl⟩
                · have hdd := digit_yes hdg
                  obtain ⟨d, hd⟩ : ∃ d : Nat, d = s[k].toNat - 48 := ⟨_, rfl⟩
                  have HN := hid (show dvals 0 (l.drop 0) = dvals (10 * n + d) (l.drop (k + 1)) by rw [HD.out, HDR.out k hlt, dvals_yes hdg, hd])
                  have hcd : (s[k].toNat : Int) - 48 = (d : Int) := by omega
                  have hd9 : d ≤ 9 := by omega
                  have hn2 := hid (show 10 * n + d < 10 ^ (k + 1 - 0) by rw [show k + 1 - 0 = (k - 0) + 1 by omega, Nat.pow_succ]; omega)
                  have hn18I : (n : Int) < 1000000000000000000 := by omega
                  have hI := hid (show wrap64 (wrap64 ((10 : Int) * (n : Int)) + (d : Int)) = ((10 * n + d : Nat) : Int) by unfold wrap64; omega)
                  clear hn hd hdd hn18 hn17
                  go_wp2_with (first | (go_at_call 105; refine (c_l01Digit _ _).mono ?_; rintro e w' ⟨rfl, rfl⟩))
                  go_roundw
                  case rel => exact ⟨k + 1, 10 * n + d, by omega, by omega, by go_num, congrArg (Value.int .i64) hI.out, hn2.out, HN, by first | rfl | trivial⟩
                  case measure => simp [intOf]; omega
              · have hke : k = s.size := by omega
                have hlN : ¬ (k : Int) < s.size := by omega
                have hnil : l.drop k = [] := List.drop_eq_nil_of_le (by rw [HLL.out]; omega)
                have HR := hid (num_some (l := l) (v := (n : Int)) (by rw [HT.out, HD.out, hnil]; rfl))
                have hn18I : (n : Int) < 1000000000000000000 := by omega
                clear hn hn18 hnil hke
                go_wp2
                go_ret2
                rw [HR.out.1, HR.out.2]
                exact ⟨rfl, rfl⟩
    · have he : s[0] = 45 := by have h1 : (s[0].toNat : Int) = 45 := by simpa using hm
                                exact UInt8.toNat_inj.1 (by have : (45 : UInt8).toNat = 45 := rfl
                                                            omega)
      have hcons : l = 45 :: l.drop 1 := by have := hdr 0 hp; rw [List.drop_zero] at this; rw [← he]; exact this
      have hneg : numL l = (if (l.drop 1).head? = some 48 then none else Option.map (fun u : Nat => -(u : Int)) (numU (l.drop 1))) := by
        conv => lhs; rw [hcons]
        exact numL_neg
      have hdl : (l.drop 1).length = s.size - 1 := by rw [List.length_drop]; omega
      by_cases h1 : s.size = 1
      · have HR := hid (num_none (l := l) (by
          rw [hneg]; split
          · rfl
          · rw [numU, if_pos (.inl (by omega))]; rfl))
        have hz4 : ((s.size : Int) == 1) = true := by rw [h1]; rfl
        clear hll h0 hhead hg0 hdr he hcons hneg hdl h1
        go_enter Tryd.func83, Tryd.ntmps83
        go_wp2
        go_ret2
        rw [HR.out.1, HR.out.2]
        exact ⟨rfl, rfl⟩
      · have hz4 : ((s.size : Int) == 1) = false := by rw [beq_eq_false_iff_ne]; omega
        have hp1 : 1 < s.size := by omega
        have hws : IntKind.i64.wrap ((s.size : Int) - 1) = (s.size : Int) - 1 := IntWalk.i64_in _ (by omega)
        have hh1 : (l.drop 1).head? = some s[1] := by rw [hdr 1 hp1]; rfl
        have hz7 : decide (1 < s.size) = true := by simpa using hp1
        by_cases h18 : 18 < s.size - 1
        · have HR := hid (num_none (l := l) (by rw [hneg, numU_long (by omega)]; split <;> rfl))
          have hz5 : decide ((18 : Int) < (s.size : Int) - 1) = true := decide_eq_true (by omega)
          clear hll h0 hhead hg0 hdr he hcons hneg hdl h1 hh1
          go_enter Tryd.func83, Tryd.ntmps83
          go_wp2
          go_ret2
          rw [HR.out.1, HR.out.2]
          exact ⟨rfl, rfl⟩
        · have hz5 : decide ((18 : Int) < (s.size : Int) - 1) = false := decide_eq_false (by omega)
          by_cases h48 : s[1].toNat = 48
          · have hz6 : ((s[1].toNat : Int) == 48) = true := by simp [h48]
            have HR := hid (num_none (l := l) (by rw [hneg, if_pos (by rw [hh1]; congr 1; exact UInt8.toNat_inj.1 h48)]))
            clear hll h0 hhead hg0 hdr he hcons hneg hdl h1 hh1 h48
            go_enter Tryd.func83, Tryd.ntmps83
            go_wp2
            go_ret2
            rw [HR.out.1, HR.out.2]
            exact ⟨rfl, rfl⟩
          · have hz6 : ((s[1].toNat : Int) == 48) = false := by rw [beq_eq_false_iff_ne]; omega
            have HT := hid (show numL l = Option.map (fun u : Nat => -(u : Int)) (dvals 0 (l.drop 1)) by
              rw [hneg, if_neg (by rw [hh1]; intro e; injection e with e; exact h48 (by rw [e]; rfl)), numU_mid (by omega) (by omega)])
            have h19 : s.size ≤ 19 := by omega
            clear hll h0 hhead hg0 hdr he hcons hneg hdl h1 hh1 h48
            go_enter Tryd.func83, Tryd.ntmps83
            go_wp2
            go_loopw [5, 6] (fun t i wr => ∃ (k n : Nat), 1 ≤ k ∧ k ≤ s.size ∧ i = .int .i64 k ∧ t = .int .i64 n ∧ n < 10 ^ (k - 1) ∧ Hid (dvals 0 (l.drop 1) = dvals n (l.drop k)) ∧ wr = w) (fun _ i _ => s.size - (intOf i).toNat)
            case atStart => exact ⟨1, 0, by omega, by omega, rfl, rfl, by decide, hid rfl, rfl⟩
            case round =>
              obtain ⟨k, n, hk0, hk, rfl, rfl, hn, HD, rfl⟩ := hrel
              have hn18 : n < 10 ^ 18 := Nat.lt_of_lt_of_le hn (Nat.pow_le_pow_right (by omega) (by omega))
              by_cases hlt : k < s.size
              · have hlI : (k : Int) < s.size := by omega
                have hn17 : n < 10 ^ 17 := Nat.lt_of_lt_of_le hn (Nat.pow_le_pow_right (by omega) (by omega))
                cases hdg : digitB s[k]
                · have HR := hid (num_none (l := l) (by rw [HT.out, HD.out, HDR.out k hlt, dvals_not hdg]; rfl))
                  clear hn
                  go_wp2_with (first | (go_at_call 105; refine (c_l01Digit _ _).mono ?_; rintro e w' ⟨rfl, rfl⟩))
                  go_ret2
                  rw [HR.out.1, HR.out.2]
                  exact ⟨rfl, rfl⟩
                · have hdd := digit_yes hdg
                  obtain ⟨d, hd⟩ : ∃ d : Nat, d = s[k].toNat - 48 := ⟨_, rfl⟩
                  have HN := hid (show dvals 0 (l.drop 1) = dvals (10 * n + d) (l.drop (k + 1)) by rw [HD.out, HDR.out k hlt, dvals_yes hdg, hd])
                  have hcd : (s[k].toNat : Int) - 48 = (d : Int) := by omega
                  have hd9 : d ≤ 9 := by omega
                  have hn2 := hid (show 10 * n + d < 10 ^ (k + 1 - 1) by rw [show k + 1 - 1 = (k - 1) + 1 by omega, Nat.pow_succ]; omega)
                  have hn18I : (n : Int) < 1000000000000000000 := by omega
                  have hI := hid (show wrap64 (wrap64 ((10 : Int) * (n : Int)) + (d : Int)) = ((10 * n + d : Nat) : Int) by unfold wrap64; omega)
                  clear hn hd hdd hn18 hn17
                  go_wp2_with (first | (go_at_call 105; refine (c_l01Digit _ _).mono ?_; rintro e w' ⟨rfl, rfl⟩))
                  go_roundw
                  case rel => exact ⟨k + 1, 10 * n + d, by omega, by omega, by go_num, congrArg (Value.int .i64) hI.out, hn2.out, HN, by first | rfl | trivial⟩
                  case measure => simp [intOf]; omega
              · have hke : k = s.size := by omega
                have hlN : ¬ (k : Int) < s.size := by omega
                have hnil : l.drop k = [] := List.drop_eq_nil_of_le (by rw [HLL.out]; omega)
                have HR := hid (num_some (l := l) (v := -(n : Int)) (by rw [HT.out, HD.out, hnil]; rfl))
                have hn18I : (n : Int) < 1000000000000000000 := by omega
                clear hn hn18 hnil hke
                go_wp2
                go_ret2
                rw [HR.out.1, HR.out.2]
                exact ⟨rfl, rfl⟩
end Go.Proofs.YtocpgnpdnoidnaaDoor
