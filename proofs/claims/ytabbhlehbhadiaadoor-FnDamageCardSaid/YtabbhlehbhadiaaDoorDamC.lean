/- The check value: its range; a changed byte changes it. Plain. -/
import Derived.Test.YtabbhlehbhadiaaDoorCrc
import Derived.Laws.BitsAllLaws
namespace Go.Proofs.YtabbhlehbhadiaaDoor
open Go.RowKit Go.Sort
set_option linter.unusedVariables false

def In16 (x : Int) : Prop := 0 ≤ x ∧ x ≤ 65535
theorem i64_nat {a : Nat} (h : a < 65536 * 65536) : (BitVec.ofInt 64 (a : Int)).toNat = a := by
  rw [BitVec.ofInt_natCast, BitVec.toNat_ofNat]; exact Nat.mod_eq_of_lt (by omega)
theorem xor16 {a b : Nat} (ha : a < 65536) (hb : b < 65536) : bits .xor .i64 (a : Int) (b : Int) = ((a ^^^ b : Nat) : Int) := by
  have hx : a ^^^ b < 2 ^ 16 := Nat.xor_lt_two_pow (by omega) (by omega)
  show IntKind.i64.wrap ((BitVec.ofInt 64 (a : Int) ^^^ BitVec.ofInt 64 (b : Int)).toNat : Int) = _
  rw [BitVec.toNat_xor, i64_nat (by omega), i64_nat (by omega)]
  exact IntWalk.i64_in _ (by omega)
theorem and16 {a : Nat} (ha : a < 65536 * 65536) : bits .and .i64 (a : Int) 65535 = ((a % 65536 : Nat) : Int) := by
  show IntKind.i64.wrap ((BitVec.ofInt 64 (a : Int) &&& BitVec.ofInt 64 65535).toNat : Int) = _
  have h1 : (BitVec.ofInt 64 65535).toNat = 2 ^ 16 - 1 := by decide
  rw [BitVec.toNat_and, i64_nat ha, h1, Nat.and_two_pow_sub_one_eq_mod]
  exact IntWalk.i64_in _ (by omega)
theorem wrap_small {x : Int} (h : 0 ≤ x) (h2 : x ≤ 4611686018427387904) : wrap64 x = x := by unfold wrap64; omega
theorem crcBit_nat {x : Nat} (h : x < 65536) : crcBit (x : Int) = (if 65535 < 2 * x then (((2 * x) % 65536) ^^^ 4129 : Nat) else (2 * x : Nat)) := by
  unfold crcBit
  have e : wrap64 ((x : Int) * 2) = ((2 * x : Nat) : Int) := by rw [wrap_small (by omega) (by omega)]; omega
  rw [e]
  by_cases hc : 65535 < 2 * x
  · rw [if_pos (by omega), if_pos hc, and16 (by omega)]
    exact xor16 (b := 4129) (by omega) (by decide)
  · rw [if_neg (by omega), if_neg hc]
theorem crcBit_lt {x : Nat} (h : x < 65536) : (if 65535 < 2 * x then (((2 * x) % 65536) ^^^ 4129 : Nat) else (2 * x : Nat)) < 65536 := by
  split
  · have : ((2 * x) % 65536) ^^^ 4129 < 2 ^ 16 := Nat.xor_lt_two_pow (by omega) (by omega)
    omega
  · omega
theorem in16_nat {x : Int} (h : In16 x) : ∃ n : Nat, x = n ∧ n < 65536 := ⟨x.toNat, by have := h.1; omega, by have := h.2; have := h.1; omega⟩
theorem crcBit_in {x : Int} (h : In16 x) : In16 (crcBit x) := by
  obtain ⟨n, rfl, hn⟩ := in16_nat h
  rw [crcBit_nat hn]
  have := crcBit_lt hn
  unfold In16; omega
theorem odd_xor {a : Nat} (h : a % 2 = 0) : (a ^^^ 4129) % 2 = 1 := by
  have h1 : a.testBit 0 = false := by
    cases ht : a.testBit 0 with
    | false => rfl
    | true => rw [← Nat.mod_two_eq_one_iff_testBit_zero] at ht; omega
  rw [Nat.mod_two_eq_one_iff_testBit_zero, Nat.testBit_xor, h1]
  decide
theorem crcBit_inj {x y : Int} (hx : In16 x) (hy : In16 y) (h : crcBit x = crcBit y) : x = y := by
  obtain ⟨n, rfl, hn⟩ := in16_nat hx
  obtain ⟨m, rfl, hm⟩ := in16_nat hy
  rw [crcBit_nat hn, crcBit_nat hm] at h
  have h := Int.ofNat.inj h
  have o1 := odd_xor (a := (2 * n) % 65536) (by omega)
  have o2 := odd_xor (a := (2 * m) % 65536) (by omega)
  split at h
  · split at h
    · have h2 := congrArg (fun z => z ^^^ 4129) h
      simp only [Nat.xor_assoc, Nat.xor_self, Nat.xor_zero] at h2
      omega
    · omega
  · split at h
    · omega
    · omega
theorem crcBits_in : ∀ (n : Nat) {x : Int}, In16 x → In16 (crcBits n x)
  | 0, _, h => h
  | n + 1, _, h => crcBits_in n (crcBit_in h)
theorem crcBits_inj : ∀ (n : Nat) {x y : Int}, In16 x → In16 y → crcBits n x = crcBits n y → x = y
  | 0, _, _, _, _, h => h
  | n + 1, _, _, hx, hy, h => crcBit_inj hx hy (crcBits_inj n (crcBit_in hx) (crcBit_in hy) h)
theorem crcIn_nat {n : Nat} (hn : n < 65536) (c : UInt8) : crcIn (n : Int) c = ((n ^^^ (c.toNat * 256) : Nat) : Int) := by
  have hc := c.toNat_lt
  unfold crcIn
  have e : wrap64 (wrap64 (c.toNat : Int) * 256) = ((c.toNat * 256 : Nat) : Int) := by
    rw [wrap_small (x := (c.toNat : Int)) (by omega) (by omega), wrap_small (by omega) (by omega)]; omega
  rw [e]
  exact xor16 hn (by omega)
theorem crcIn_in {x : Int} (h : In16 x) (c : UInt8) : In16 (crcIn x c) := by
  obtain ⟨n, rfl, hn⟩ := in16_nat h
  have hc := c.toNat_lt
  rw [crcIn_nat hn]
  have : n ^^^ (c.toNat * 256) < 2 ^ 16 := Nat.xor_lt_two_pow (by omega) (by omega)
  unfold In16; omega
theorem crcIn_inj {x y : Int} (hx : In16 x) (hy : In16 y) {c : UInt8} (h : crcIn x c = crcIn y c) : x = y := by
  obtain ⟨n, rfl, hn⟩ := in16_nat hx
  obtain ⟨m, rfl, hm⟩ := in16_nat hy
  rw [crcIn_nat hn, crcIn_nat hm] at h
  have h := Int.ofNat.inj h
  have h2 := congrArg (fun z => z ^^^ (c.toNat * 256)) h
  simp only [Nat.xor_assoc, Nat.xor_self, Nat.xor_zero] at h2
  rw [h2]
theorem crcIn_byte {x : Int} (hx : In16 x) {c d : UInt8} (h : crcIn x c = crcIn x d) : c = d := by
  obtain ⟨n, rfl, hn⟩ := in16_nat hx
  rw [crcIn_nat hn, crcIn_nat hn] at h
  have h := Int.ofNat.inj h
  have h2 := congrArg (fun z => n ^^^ z) h
  simp only [← Nat.xor_assoc, Nat.xor_self, Nat.zero_xor] at h2
  exact UInt8.toNat_inj.1 (by omega)
theorem crcL_in : ∀ (l : List UInt8) {x : Int}, In16 x → In16 (crcL l x)
  | [], _, h => h
  | c :: r, _, h => crcL_in r (crcBits_in 8 (crcIn_in h c))
theorem crcL_inj : ∀ (l : List UInt8) {x y : Int}, In16 x → In16 y → crcL l x = crcL l y → x = y
  | [], _, _, _, _, h => h
  | c :: r, _, _, hx, hy, h => crcIn_inj hx hy (crcBits_inj 8 (crcIn_in hx c) (crcIn_in hy c) (crcL_inj r (crcBits_in 8 (crcIn_in hx c)) (crcBits_in 8 (crcIn_in hy c)) h))
theorem crcL_app : ∀ (a b : List UInt8) (x : Int), crcL (a ++ b) x = crcL b (crcL a x)
  | [], _, _ => rfl
  | c :: r, b, x => by rw [List.cons_append, crcL, crcL, crcL_app r b]
/-- a changed byte changes the check value -/
theorem crc_one {a b : List UInt8} {c d : UInt8} (h : c ≠ d) : crcL (a ++ c :: b) 65535 ≠ crcL (a ++ d :: b) 65535 := fun e => by
  have h0 : In16 65535 := by unfold In16; omega
  rw [crcL_app, crcL_app, crcL, crcL] at e
  have hx := crcL_in a h0
  exact h (crcIn_byte hx (crcBits_inj 8 (crcIn_in hx c) (crcIn_in hx d) (crcL_inj b (crcBits_in 8 (crcIn_in hx c)) (crcBits_in 8 (crcIn_in hx d)) e)))
theorem chkV_in (k t : ByteArray) : In16 (chkV k t) := crcL_in _ (by unfold In16; omega)
theorem chkV_list (k t : ByteArray) : chkV k t = crcL (k.data.toList ++ 32 :: t.data.toList) 65535 := by
  unfold chkV
  have e : (⟨#[32]⟩ : ByteArray) = bs [32] := rfl
  rw [e, ← bs_self k, ← bs_self t, bs_app, bs_app, bs_list, bs_list, bs_list]
  simp
theorem chkV_num (k t : ByteArray) : numL (Lib.itoa (chkV k t)) = some (chkV k t) := (numL_iff _ _).2 ⟨rfl, by have := chkV_in k t; unfold In16 at this; omega⟩
end Go.Proofs.YtabbhlehbhadiaaDoor
