/- Marks of a slice of Call. Printed by wip/genmark.py. -/
import Derived.Test.YtmolcfagmiecjaaMark
import Derived.Test.YtmolcfagmiecjaaMarkT
import Derived.Test.YtmolcfagmiecjaaTCall
namespace Go.Proofs.Ytmolcfagmiecjaa
open Go.RowKit Go.Sort
set_option maxRecDepth 100000

def marksCall (m : Int) (n : Nat) : List CallD := (List.range n).map fun (i : Nat) => ⟨m + 4 * (i : Int), m + 4 * (i : Int) + 1, m + 4 * (i : Int) + 1 + 1, m + 4 * (i : Int) + 1 + 1 + 1⟩
@[simp] theorem marksCall_len (m : Int) (n : Nat) : (marksCall m n).length = n := by simp [marksCall]
theorem marksCall_get {m : Int} {n k : Nat} (h : k < (marksCall m n).length) : (marksCall m n)[k] = ⟨m + 4 * (k : Int), m + 4 * (k : Int) + 1, m + 4 * (k : Int) + 1 + 1, m + 4 * (k : Int) + 1 + 1 + 1⟩ := by simp [marksCall]
set_option maxHeartbeats 2000000 in
theorem c_markCallS (v : Value) (xs : List CallD) (m : Int) (lo : Nat) (w : World) (h : SlO w lo 4 encCall v xs) (hl : xs.length ≤ 1099511627776) (h0 : 0 ≤ m) (h1 : m ≤ 1099511627776) :
    Calls Try.prog 52 #[v, .int .i64 m] w fun e w' => e = .returned (.int .i64 (m + 4 * xs.length)) ∧ w.grownBy w' v.ownBlock ∧ SlO w' lo 4 encCall v (marksCall m xs.length) := by
  rcases h.1 with ⟨a, cap, rfl, rfl, hcap⟩ | ⟨b, off, cap, rfl, hp, hc, hm, hlo, hb, hx⟩
  · have hO := hid h
    go_enter Try.func52, Try.ntmps52
    go_wp2
    refine wp_loop_rounds 1 ?_
    rw [rounds_succ]
    go_wp2
    go_ret
    exact ⟨ret_int (by simp), grownBy_refl _ _, hO.out⟩
  · have hM := MarkC.start (enc := encCall) (ys := marksCall m xs.length) (fun _ => rfl) h (by simp) hp
    unfold maxLen at hm
    have hfl := hid (flat_len (n := 4) encCall (fun _ => rfl) (marksCall m xs.length))
    have hbw := hb
    clear hx h
    go_enter Try.func52, Try.ntmps52
    go_wp2
    go_loopw [1, 5] (fun q i wr => ∃ k : Nat, k ≤ xs.length ∧ i = .int .i64 k ∧ q = .int .i64 (m + 4 * k) ∧ MarkC w wr b off ((marksCall m xs.length).flatMap encCall) (k * 4)) (fun _ i _ => xs.length - (intOf i).toNat)
    case atStart => exact ⟨0, Nat.zero_le _, rfl, by simp, by simpa using hM⟩
    case round =>
      clear hM
      obtain ⟨k, hk, rfl, rfl, hM⟩ := hrel
      by_cases hlt : k < xs.length
      · have hzr := hM.1.size
        have hbr : b < wr.heap.size := by omega
        have hlI : (k : Int) < xs.length := by omega
        obtain ⟨u0, hu0⟩ := hM.2.2.2.1 (k * 4) (by rw [hfl.out]; simp; omega)
        obtain ⟨u1, hu1⟩ := hM.2.2.2.1 (k * 4 + 1) (by rw [hfl.out]; simp; omega)
        obtain ⟨u2, hu2⟩ := hM.2.2.2.1 (k * 4 + 2) (by rw [hfl.out]; simp; omega)
        obtain ⟨u3, hu3⟩ := hM.2.2.2.1 (k * 4 + 3) (by rw [hfl.out]; simp; omega)
        simp only [← Nat.add_assoc] at hu0 hu1 hu2 hu3
        have hfz := hM.2.2.1
        have hM' := hid hM
        clear hM
        go_wp2
        go_roundw
        case rel =>
          have F := fun j hj => (flat_get (n := 4) encCall (fun _ => rfl) (marksCall m xs.length) k (by simpa using hlt) j hj).symm
          simp only [marksCall_get, encCall] at F
          refine ⟨k + 1, by omega, by go_num, by go_num, ?_⟩
          have E : MarkC w _ b off ((marksCall m xs.length).flatMap encCall) ((k + 1) * 4) := ((((hM'.out.set (by rw [hfl.out]; simp; omega) (F 0 (by omega)) rfl).set (by rw [hfl.out]; simp; omega) (F 1 (by omega)) rfl).set (by rw [hfl.out]; simp; omega) (F 2 (by omega)) rfl).set (by rw [hfl.out]; simp; omega) (F 3 (by omega)) (by omega))
          simp only [← Nat.add_assoc] at E
          exact E
        case measure => simp [intOf]; omega
      · have e : k = xs.length := by omega
        subst e
        go_wp2
        go_ret
        have hS := MarkC.own (enc := encCall) (n := 4) (lo := lo) (cap := cap) (fun _ => rfl) (ys := marksCall m xs.length) (by simpa using hM) hlo (by simp; omega) (by unfold maxLen; omega)
        simp only [marksCall_len] at hS
        exact ⟨rfl, hM.1, hS⟩
set_option maxHeartbeats 2000000 in
theorem c_heldCallS (v : Value) (n : Nat) (m : Int) (lo : Nat) (w : World) (h : SlA w lo 4 encCall v (marksCall m n)) (hl : n ≤ 1099511627776) (h0 : 0 ≤ m) (h1 : m ≤ 1099511627776) :
    Calls Try.prog 53 #[v, .int .i64 m] w fun e w' => e = .returned (.int .i64 (m + 4 * n)) ∧ Below w.heap.size w w' := by
  obtain ⟨ad, cap, b, off, rfl, hm, had, hx⟩ := h.uni
  simp only [marksCall_len] at had hm hx ⊢
  simp only [marksCall_get] at hx
  go_enter Try.func53, Try.ntmps53
  go_wp2
  go_loopw [1, 5] (fun q i wr => ∃ k : Nat, k ≤ n ∧ i = .int .i64 k ∧ q = .int .i64 (m + 4 * k) ∧ Below w.heap.size w wr) (fun _ i _ => n - (intOf i).toNat)
  case atStart => exact ⟨0, Nat.zero_le _, rfl, by simp, by (repeat' (first | (with_reducible exact Below.refl _ _) | (with_reducible refine Below.alloc ?_ ?_ _) | (with_reducible refine Below.drew ?_) | (with_reducible refine below_drewN ?_ _) | (with_reducible refine Below.setCell ?_ ?_ _) | (with_reducible refine below_via ‹_› ?_ ?_) | (with_reducible refine below_grow ?_ ?_ _ _) | omega | (simp; done) | (simp; omega)))⟩
  case round =>
    obtain ⟨k, hk, rfl, rfl, hB⟩ := hrel
    have hzr := hB.size
    by_cases hlt : k < n
    · obtain ⟨rfl, hb, -, hcap, hmc⟩ := had (by omega)
      have hlI : (k : Int) < n := by omega
      have hbr : b < wr.heap.size := by omega
      have g0 := below_cell hB hb (hx k hlt 0 (by omega))
      have g1 := below_cell hB hb (hx k hlt 1 (by omega))
      have g2 := below_cell hB hb (hx k hlt 2 (by omega))
      have g3 := below_cell hB hb (hx k hlt 3 (by omega))
      simp only [encCall, List.getD_cons_zero, List.getD_cons_succ, Nat.add_zero] at g0 g1 g2 g3
      clear hx had
      go_wp2
      go_roundw
      case rel => exact ⟨k + 1, by omega, by go_num, by go_num, by (repeat' (first | (with_reducible exact Below.refl _ _) | (with_reducible refine Below.alloc ?_ ?_ _) | (with_reducible refine Below.drew ?_) | (with_reducible refine below_drewN ?_ _) | (with_reducible refine Below.setCell ?_ ?_ _) | (with_reducible refine below_via ‹_› ?_ ?_) | (with_reducible refine below_grow ?_ ?_ _ _) | omega | (simp; done) | (simp; omega)))⟩
      case measure => simp [intOf]; omega
    · have e : k = n := by omega
      subst e
      go_wp2
      go_ret
      exact ⟨rfl, by (repeat' (first | (with_reducible exact Below.refl _ _) | (with_reducible refine Below.alloc ?_ ?_ _) | (with_reducible refine Below.drew ?_) | (with_reducible refine below_drewN ?_ _) | (with_reducible refine Below.setCell ?_ ?_ _) | (with_reducible refine below_via ‹_› ?_ ?_) | (with_reducible refine below_grow ?_ ?_ _ _) | omega | (simp; done) | (simp; omega)))⟩
end Go.Proofs.Ytmolcfagmiecjaa
