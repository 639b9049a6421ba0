/- The check value of a text (UNDER WAY: the program's walk). -/
import Derived.Test.YtabbhlehbhadiaaDoorSplit
namespace Go.Proofs.YtabbhlehbhadiaaDoor
open Go.RowKit Go.Sort
set_option linter.unusedVariables false
set_option maxRecDepth 100000

def crcBit (x : Int) : Int := if 65535 < wrap64 (x * 2) then bits .xor .i64 (bits .and .i64 (wrap64 (x * 2)) 65535) 4129 else wrap64 (x * 2)
def crcBits : Nat → Int → Int
  | 0, x => x
  | n + 1, x => crcBits n (crcBit x)
def crcIn (x : Int) (c : UInt8) : Int := bits .xor .i64 x (wrap64 (wrap64 (c.toNat : Int) * 256))
def crcL : List UInt8 → Int → Int
  | [], x => x
  | c :: r, x => crcL r (crcBits 8 (crcIn x c))
theorem crcL_step {l : List UInt8} {k : Nat} (h : k < l.length) (x : Int) : crcL (l.drop k) x = crcL (l.drop (k + 1)) (crcBits 8 (crcIn x l[k])) := by
  rw [List.drop_eq_getElem_cons h, crcL]
set_option maxHeartbeats 1000000 in
theorem c_impl_Crc16 (s : ByteArray) (x : Int) (w : World) (hs : (s.size : Int) ≤ 9000000) (h0 : 0 ≤ x) (h1 : x ≤ 65535) :
    Calls Tryd.prog 44 #[.string s, .int .i64 x] w fun e w' => e = .returned (.int .i64 (crcL s.data.toList x)) ∧ Below w.heap.size w w' := by
  have hin : inB x 0 65535 = true := inB_of h0 h1
  obtain ⟨l, hl⟩ : ∃ l, l = s.data.toList := ⟨_, rfl⟩
  have hll : l.length = s.size := by rw [hl]; exact Array.length_toList
  have HG := hid (show ∀ k (h : k < s.size) (h' : k < l.length), l[k] = s[k] from fun k h h' => by subst hl; exact data_get s k h)
  rw [← hl]
  clear hl
  go_enter Tryd.func44, Tryd.ntmps44
  go_wp2_with (first | (go_at_call 41; refine (c_within _ _ _ _).mono ?_; rintro e w' ⟨rfl, rfl⟩))
  go_loopw [1, 5] (fun y i wr => ∃ (k : Nat) (z : Int), k ≤ s.size ∧ i = .int .i64 k ∧ y = .int .i64 z ∧ Hid (crcL (l.drop k) z = crcL l x) ∧ Below w.heap.size w wr) (fun _ i _ => s.size - (intOf i).toNat)
  case atStart => exact ⟨0, x, Nat.zero_le _, rfl, rfl, hid (by simp), by (repeat' (first | (with_reducible exact Below.refl _ _) | (with_reducible refine Below.alloc ?_ ?_ _) | (with_reducible refine Below.drew ?_) | (with_reducible refine below_drewN ?_ _) | (with_reducible refine Below.setCell ?_ ?_ _) | (with_reducible refine below_via ‹_› ?_ ?_) | (with_reducible refine below_grow ?_ ?_ _ _) | omega | (simp; done) | (simp; omega)))⟩
  case round =>
    obtain ⟨k, z, hk, rfl, rfl, hO, hB⟩ := hrel
    by_cases hlt : k < s.size
    · have hlI : (k : Int) < s.size := by omega
      have hkl : k < l.length := by omega
      have HS := hid (crcL_step hkl z)
      have HE := hid (HG.out k hlt hkl)
      obtain ⟨y0, hy0⟩ : ∃ y0, y0 = crcIn z l[k] := ⟨_, rfl⟩
      have hy : bits .xor .i64 z (wrap64 (wrap64 (s[k].toNat : Int) * 256)) = y0 := by rw [hy0, crcIn, HE.out]
      have HO := hid (show crcL (l.drop (k + 1)) (crcBits 8 y0) = crcL l x by rw [hy0, ← HS.out, hO.out])
      clear hy0
      go_wp2
      go_loopw [1, 22] (fun t j wr2 => ∃ (n : Nat) (u : Int), n ≤ 8 ∧ j = .int .i64 n ∧ t = .int .i64 u ∧ Hid (crcBits (8 - n) u = crcBits 8 y0) ∧ Below w.heap.size w wr2) (fun _ j _ => 8 - (intOf j).toNat)
      case atStart => exact ⟨0, y0, Nat.zero_le _, rfl, rfl, hid rfl, hB⟩
      case round =>
        obtain ⟨n, u, hn, rfl, rfl, hU, hB2⟩ := hrel
        by_cases hn8 : n < 8
        · have hnI : (n : Int) < 8 := by omega
          have e8 : 8 - n = (8 - (n + 1)) + 1 := by omega
          have HU := hid (show crcBits (8 - (n + 1)) (crcBit u) = crcBits 8 y0 by rw [← hU.out, e8]; rfl)
          clear e8
          cases hgt : decide (65535 < wrap64 (u * 2))
          · have HV := hid (show crcBit u = wrap64 (u * 2) by rw [crcBit, if_neg (by simpa using hgt)])
            have hgI : ¬ (65535 < wrap64 (u * 2)) := by simpa using hgt
            go_wp2
            go_roundw
            case rel => exact ⟨n + 1, _, by omega, by go_num, rfl, hid (by rw [← HV.out]; exact HU.out), hB2⟩
            case measure => simp [intOf]; omega
          · have HV := hid (show crcBit u = bits .xor .i64 (bits .and .i64 (wrap64 (u * 2)) 65535) 4129 by rw [crcBit, if_pos (by simpa using hgt)])
            have hgI : 65535 < wrap64 (u * 2) := by simpa using hgt
            go_wp2
            go_roundw
            case rel => exact ⟨n + 1, _, by omega, by go_num, rfl, hid (by rw [← HV.out]; exact HU.out), hB2⟩
            case measure => simp [intOf]; omega
        · have hnI : ¬ (n : Int) < 8 := by omega
          have e : n = 8 := by omega
          have HR := hid (show u = crcBits 8 y0 by rw [← hU.out, e]; rfl)
          clear e
          go_wp2
          go_roundw
          case rel => exact ⟨k + 1, u, by omega, by go_num, rfl, hid (by rw [HR.out]; exact HO.out), hB2⟩
          case measure => simp [intOf]; omega
    · have hlI : ¬ (k : Int) < s.size := by omega
      have e : k = l.length := by omega
      have HR := hid (show z = crcL l x by rw [← hO.out, e, List.drop_length]; rfl)
      clear e
      go_wp2
      go_ret
      rw [HR.out]
      exact ⟨rfl, by (repeat' (first | (with_reducible exact Below.refl _ _) | (with_reducible refine Below.alloc ?_ ?_ _) | (with_reducible refine Below.drew ?_) | (with_reducible refine below_drewN ?_ _) | (with_reducible refine Below.setCell ?_ ?_ _) | (with_reducible refine below_via ‹_› ?_ ?_) | (with_reducible refine below_grow ?_ ?_ _ _) | omega | (simp; done) | (simp; omega)))⟩
set_option maxHeartbeats 1000000 in
theorem c_l01Crc (s : ByteArray) (x : Int) (w : World) (hs : (s.size : Int) ≤ 9000000) :
    Calls Tryd.prog 22 #[.string s, .int .i64 x] w fun e w' => e = .returned (.int .i64 (crcL s.data.toList x)) ∧ Below w.heap.size w w' := by
  obtain ⟨l, hl⟩ : ∃ l, l = s.data.toList := ⟨_, rfl⟩
  have hll : l.length = s.size := by rw [hl]; exact Array.length_toList
  have HG := hid (show ∀ k (h : k < s.size) (h' : k < l.length), l[k] = s[k] from fun k h h' => by subst hl; exact data_get s k h)
  rw [← hl]
  clear hl
  go_enter Tryd.func22, Tryd.ntmps22
  go_wp2
  go_loopw [1, 5] (fun y i wr => ∃ (k : Nat) (z : Int), k ≤ s.size ∧ i = .int .i64 k ∧ y = .int .i64 z ∧ Hid (crcL (l.drop k) z = crcL l x) ∧ Below w.heap.size w wr) (fun _ i _ => s.size - (intOf i).toNat)
  case atStart => exact ⟨0, x, Nat.zero_le _, rfl, rfl, hid (by simp), by (repeat' (first | (with_reducible exact Below.refl _ _) | (with_reducible refine Below.alloc ?_ ?_ _) | (with_reducible refine Below.drew ?_) | (with_reducible refine below_drewN ?_ _) | (with_reducible refine Below.setCell ?_ ?_ _) | (with_reducible refine below_via ‹_› ?_ ?_) | (with_reducible refine below_grow ?_ ?_ _ _) | omega | (simp; done) | (simp; omega)))⟩
  case round =>
    obtain ⟨k, z, hk, rfl, rfl, hO, hB⟩ := hrel
    by_cases hlt : k < s.size
    · have hlI : (k : Int) < s.size := by omega
      have hkl : k < l.length := by omega
      have HS := hid (crcL_step hkl z)
      have HE := hid (HG.out k hlt hkl)
      obtain ⟨y0, hy0⟩ : ∃ y0, y0 = crcIn z l[k] := ⟨_, rfl⟩
      have hy : bits .xor .i64 z (wrap64 (wrap64 (s[k].toNat : Int) * 256)) = y0 := by rw [hy0, crcIn, HE.out]
      have HO := hid (show crcL (l.drop (k + 1)) (crcBits 8 y0) = crcL l x by rw [hy0, ← HS.out, hO.out])
      clear hy0
      go_wp2
      go_loopw [1, 6] (fun t j wr2 => ∃ (n : Nat) (u : Int), n ≤ 8 ∧ j = .int .i64 n ∧ t = .int .i64 u ∧ Hid (crcBits (8 - n) u = crcBits 8 y0) ∧ Below w.heap.size w wr2) (fun _ j _ => 8 - (intOf j).toNat)
      case atStart => exact ⟨0, y0, Nat.zero_le _, rfl, rfl, hid rfl, hB⟩
      case round =>
        obtain ⟨n, u, hn, rfl, rfl, hU, hB2⟩ := hrel
        by_cases hn8 : n < 8
        · have hnI : (n : Int) < 8 := by omega
          have e8 : 8 - n = (8 - (n + 1)) + 1 := by omega
          have HU := hid (show crcBits (8 - (n + 1)) (crcBit u) = crcBits 8 y0 by rw [← hU.out, e8]; rfl)
          clear e8
          cases hgt : decide (65535 < wrap64 (u * 2))
          · have HV := hid (show crcBit u = wrap64 (u * 2) by rw [crcBit, if_neg (by simpa using hgt)])
            have hgI : ¬ (65535 < wrap64 (u * 2)) := by simpa using hgt
            go_wp2
            go_roundw
            case rel => exact ⟨n + 1, _, by omega, by go_num, rfl, hid (by rw [← HV.out]; exact HU.out), hB2⟩
            case measure => simp [intOf]; omega
          · have HV := hid (show crcBit u = bits .xor .i64 (bits .and .i64 (wrap64 (u * 2)) 65535) 4129 by rw [crcBit, if_pos (by simpa using hgt)])
            have hgI : 65535 < wrap64 (u * 2) := by simpa using hgt
            go_wp2
            go_roundw
            case rel => exact ⟨n + 1, _, by omega, by go_num, rfl, hid (by rw [← HV.out]; exact HU.out), hB2⟩
            case measure => simp [intOf]; omega
        · have hnI : ¬ (n : Int) < 8 := by omega
          have e : n = 8 := by omega
          have HR := hid (show u = crcBits 8 y0 by rw [← hU.out, e]; rfl)
          clear e
          go_wp2
          go_roundw
          case rel => exact ⟨k + 1, u, by omega, by go_num, rfl, hid (by rw [HR.out]; exact HO.out), hB2⟩
          case measure => simp [intOf]; omega
    · have hlI : ¬ (k : Int) < s.size := by omega
      have e : k = l.length := by omega
      have HR := hid (show z = crcL l x by rw [← hO.out, e, List.drop_length]; rfl)
      clear e
      go_wp2
      go_ret
      rw [HR.out]
      exact ⟨rfl, by (repeat' (first | (with_reducible exact Below.refl _ _) | (with_reducible refine Below.alloc ?_ ?_ _) | (with_reducible refine Below.drew ?_) | (with_reducible refine below_drewN ?_ _) | (with_reducible refine Below.setCell ?_ ?_ _) | (with_reducible refine below_via ‹_› ?_ ?_) | (with_reducible refine below_grow ?_ ?_ _ _) | omega | (simp; done) | (simp; omega)))⟩
theorem wrap_in (x : Int) : I64 (IntKind.i64.wrap x) := by
  unfold I64 IntKind.wrap; simp [IntKind.signed, IntKind.bits]; omega
theorem wrap_in' (x : Int) : I64 (wrap64 x) := by rw [← IntWalk.i64_left]; exact wrap_in x
theorem crcBits_i64 : ∀ (n : Nat) (x : Int), I64 x → I64 (crcBits n x)
  | 0, _, h => h
  | n + 1, x, h => crcBits_i64 n _ (by
    unfold crcBit
    split
    · exact wrap_in _
    · exact wrap_in' _)
theorem crcL_i64 : ∀ (l : List UInt8) (x : Int), I64 x → I64 (crcL l x)
  | [], _, h => h
  | c :: r, x, _ => crcL_i64 r _ (crcBits_i64 8 _ (wrap_in _))
def chkV (k t : ByteArray) : Int := crcL (k ++ (⟨#[32]⟩ : ByteArray) ++ t).data.toList 65535
theorem chkV_i64 (k t : ByteArray) : I64 (chkV k t) := crcL_i64 _ _ (by unfold I64; omega)
theorem c_spec_Crc16 (s : ByteArray) (w : World) (hs : (s.size : Int) ≤ 9000000) :
    Calls Tryd.prog 12 #[.string s, .int .i64 65535] w fun e w' => e = .returned (.int .i64 (crcL s.data.toList 65535)) ∧ Below w.heap.size w w' := by
  have hin : inB 65535 0 65535 = true := inB_of (by omega) (by omega)
  have cc := fun w' => c_l01Crc s 65535 w' hs
  obtain ⟨r, hr⟩ : ∃ r, r = crcL s.data.toList 65535 := ⟨_, rfl⟩
  rw [← hr] at cc ⊢
  clear hr
  go_enter Tryd.func12, Tryd.ntmps12
  go_wp2_with (first | (go_at_call 21; refine (c_l00In _ _ _ _).mono ?_; rintro e w' ⟨rfl, rfl⟩) | (go_at_call 22; refine (cc _).mono ?_; rintro e w2 ⟨rfl, hb2⟩))
  go_ret
  exact ⟨rfl, by (repeat' (first | (with_reducible exact Below.refl _ _) | (with_reducible refine Below.alloc ?_ ?_ _) | (with_reducible refine Below.drew ?_) | (with_reducible refine below_drewN ?_ _) | (with_reducible refine Below.setCell ?_ ?_ _) | (with_reducible refine below_via ‹_› ?_ ?_) | (with_reducible refine below_grow ?_ ?_ _ _) | omega | (simp; done) | (simp; omega)))⟩
theorem chk_size (k t : ByteArray) : (k ++ (⟨#[32]⟩ : ByteArray) ++ t).size = k.size + 1 + t.size := by
  rw [ByteArray.size_append, ByteArray.size_append]; rfl
set_option maxHeartbeats 1000000 in
theorem c_l24Check (bk off : Nat) (k t : ByteArray) (w : World) (hb : bk < w.heap.size) (hk : k.size ≤ 1000) (ht : t.size ≤ 1000) (h0 : w.cell? ⟨bk, off, none⟩ = some (.string k)) (h1 : w.cell? ⟨bk, off + 1, none⟩ = some (.string t)) :
    Calls Tryd.prog 28 #[.pointer (some ⟨bk, off, none⟩)] w fun e w' => e = .returned (.int .i64 (chkV k t)) ∧ Below w.heap.size w w' := by
  have hz := chk_size k t
  have cc := fun w' => c_spec_Crc16 (k ++ (⟨#[32]⟩ : ByteArray) ++ t) w' (by omega)
  obtain ⟨r, hr⟩ : ∃ r, r = chkV k t := ⟨_, rfl⟩
  unfold chkV at hr
  unfold chkV
  rw [← hr] at cc ⊢
  have g0 := cellr h0
  have g1 := cellr h1
  have r1 : ¬ (9223372036854775807 < k.size + 1) := by omega
  have r2 : ¬ (9223372036854775807 ≤ k.size) := by omega
  have r3 : ¬ (9223372036854775807 < k.size + 1 + t.size) := by omega
  clear hr hz
  go_enter Tryd.func28, Tryd.ntmps28
  go_wp2_with fail
  (refine wp_region_quiet_below (by kernel_rfl) (by kernel_rfl) ?_; (repeat (first | go_big_quiet_step ((first | (go_at_call 12; exact regrown_of (cc _)))) | quiet_step ((first | (go_at_call 12; exact regrown_of (cc _)))))); refine wpQuiet_nil ?_; intro w1 hw'; have hb := below_of_regrown hw'; clear hw'; obtain ⟨hc, hf⟩ := bcell hb; have hz := hb.size; (try simp at hz); (try have hz0 : ∀ b, b < w.heap.size → b < w1.heap.size := fun b h => by omega); (try have hz1 : w.heap.size < w1.heap.size := by omega); (try have hz2 : w.heap.size + 1 < w1.heap.size := by omega); (try have hz3 : w.heap.size + 2 < w1.heap.size := by omega))
  go_wp2_with fail
  go_ret
  exact ⟨rfl, by (repeat' (first | (with_reducible exact Below.refl _ _) | (with_reducible refine Below.alloc ?_ ?_ _) | (with_reducible refine Below.drew ?_) | (with_reducible refine below_drewN ?_ _) | (with_reducible refine Below.setCell ?_ ?_ _) | (with_reducible refine below_via ‹_› ?_ ?_) | (with_reducible refine below_grow ?_ ?_ _ _) | omega | (simp; done) | (simp; omega)))⟩
set_option maxHeartbeats 1000000 in
theorem c_check (k t : ByteArray) (w : World) (hk : k.size ≤ 1000) (ht : t.size ≤ 1000) :
    Calls Tryd.prog 32 #[.agg #[.string k, .string t]] w fun e w' => e = .returned (.int .i64 (chkV k t)) ∧ Below w.heap.size w w' := by
  have hz := chk_size k t
  have cc := fun w' => c_impl_Crc16 (k ++ (⟨#[32]⟩ : ByteArray) ++ t) 65535 w' (by omega) (by omega) (by omega)
  obtain ⟨r, hr⟩ : ∃ r, r = chkV k t := ⟨_, rfl⟩
  unfold chkV at hr
  unfold chkV
  rw [← hr] at cc ⊢
  have r1 : ¬ (9223372036854775807 < k.size + 1) := by omega
  have r2 : ¬ (9223372036854775807 ≤ k.size) := by omega
  have r3 : ¬ (9223372036854775807 < k.size + 1 + t.size) := by omega
  clear hr hz
  go_enter Tryd.func32, Tryd.ntmps32
  go_wp2_with (go_at_call 44; refine (cc _).mono ?_; rintro e w2 ⟨rfl, hb2⟩)
  go_ret
  exact ⟨rfl, by (repeat' (first | (with_reducible exact Below.refl _ _) | (with_reducible refine Below.alloc ?_ ?_ _) | (with_reducible refine Below.drew ?_) | (with_reducible refine below_drewN ?_ _) | (with_reducible refine Below.setCell ?_ ?_ _) | (with_reducible refine below_via ‹_› ?_ ?_) | (with_reducible refine below_grow ?_ ?_ _ _) | omega | (simp; done) | (simp; omega)))⟩
end Go.Proofs.YtabbhlehbhadiaaDoor
