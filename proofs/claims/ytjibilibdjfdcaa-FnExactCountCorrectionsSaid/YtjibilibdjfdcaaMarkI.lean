/- Marks of a slice of numbers. -/
import Derived.Test.YtjibilibdjfdcaaMark
import Derived.Test.YtjibilibdjfdcaaTTide
namespace Go.Proofs.Ytjibilibdjfdcaa
open Go.RowKit
set_option maxRecDepth 100000

def marks (k : Int) (n : Nat) : List Int := (List.range n).map (fun (i : Nat) => k + (i : Int))
@[simp] theorem marks_len (k : Int) (n : Nat) : (marks k n).length = n := by simp [marks]
theorem marks_get {k : Int} {n i : Nat} (h : i < (marks k n).length) : (marks k n)[i] = k + i := by simp [marks]
set_option maxHeartbeats 400000 in
theorem c_markInt64S (v : Value) (xs : List Int) (m : Int) (lo : Nat) (w : World) (h : SlO w lo 1 encI v xs) (hl : xs.length ≤ 1099511627776) (h0 : 0 ≤ m) (h1 : m ≤ 1099511627776) :
    Calls Try.prog 17 #[v, .int .i64 m] w fun e w' => e = .returned (.int .i64 (m + xs.length)) ∧ w.grownBy w' v.ownBlock ∧ SlO w' lo 1 encI v (marks m xs.length) := by
  rcases h.1 with ⟨a, cap, rfl, rfl, hcap⟩ | ⟨b, off, cap, rfl, hp, hc, hm, hlo, hb, hx⟩
  · have hO := hid h
    go_enter Try.func17, Try.ntmps17
    go_wp2
    refine wp_loop_rounds 1 ?_
    rw [rounds_succ]
    go_wp2
    go_ret
    exact ⟨ret_int (by simp), grownBy_refl _ _, hO.out⟩
  · have hM := MarkC.start (enc := encI) (ys := marks m xs.length) (fun _ => rfl) h (by simp) hp
    unfold maxLen at hm
    have hfl := hid (flat_len (n := 1) encI (fun _ => rfl) (marks m xs.length))
    clear hx h
    go_enter Try.func17, Try.ntmps17
    go_wp2
    go_loopw [1, 5] (fun q i wr => ∃ k : Nat, k ≤ xs.length ∧ i = .int .i64 k ∧ q = .int .i64 (m + k) ∧ MarkC w wr b off ((marks m xs.length).flatMap encI) k) (fun _ i _ => xs.length - (intOf i).toNat)
    case atStart => exact ⟨0, Nat.zero_le _, rfl, by simp, hM⟩
    case round =>
      clear hM
      obtain ⟨k, hk, rfl, rfl, hM⟩ := hrel
      by_cases hlt : k < xs.length
      · have hzr := hM.1.size
        have hlI : (k : Int) < xs.length := by omega
        obtain ⟨u0, hu0⟩ := hM.2.2.2.1 k (by rw [hfl.out]; simp; omega)
        have hfz := hM.2.2.1 (off + k)
        have hM' := hid hM
        clear hM
        go_wp2
        go_roundw
        case rel =>
          have F := (flat_get (n := 1) encI (fun _ => rfl) (marks m xs.length) k (by simpa using hlt) 0 (by omega)).symm
          simp only [Nat.mul_one, Nat.add_zero, marks_get, encI, List.getD_cons_zero] at F
          exact ⟨k + 1, by omega, by go_num, by go_num, hM'.out.set (by rw [hfl.out]; simp; omega) F rfl⟩
        case measure => simp [intOf]; omega
      · have e : k = xs.length := by omega
        subst e
        go_wp2
        go_ret
        have hS := MarkC.own (enc := encI) (n := 1) (lo := lo) (cap := cap) (fun _ => rfl) (ys := marks m xs.length) (by simpa using hM) hlo (by simp; omega) (by unfold maxLen; omega)
        simp only [marks_len] at hS
        exact ⟨rfl, hM.1, hS⟩
set_option maxHeartbeats 400000 in
theorem c_heldInt64S (v : Value) (n : Nat) (m : Int) (lo : Nat) (w : World) (h : SlA w lo 1 encI v (marks m n)) (hl : n ≤ 1099511627776) (h0 : 0 ≤ m) (h1 : m ≤ 1099511627776) :
    Calls Try.prog 18 #[v, .int .i64 m] w fun e w' => e = .returned (.int .i64 (m + n)) ∧ Below w.heap.size w w' := by
  obtain ⟨ad, cap, b, off, rfl, hm, had, hx⟩ := h.uni
  simp only [marks_len] at had hm hx ⊢
  simp only [marks_get] at hx
  go_enter Try.func18, Try.ntmps18
  go_wp2
  go_loopw [1, 5] (fun q i wr => ∃ k : Nat, k ≤ n ∧ i = .int .i64 k ∧ q = .int .i64 (m + k) ∧ Below w.heap.size w wr) (fun _ i _ => n - (intOf i).toNat)
  case atStart => exact ⟨0, Nat.zero_le _, rfl, by simp, by (repeat' (first | (with_reducible exact Below.refl _ _) | (with_reducible refine Below.alloc ?_ ?_ _) | (with_reducible refine Below.drew ?_) | (with_reducible refine below_drewN ?_ _) | (with_reducible refine Below.setCell ?_ ?_ _) | (with_reducible refine below_via ‹_› ?_ ?_) | (with_reducible refine below_grow ?_ ?_ _ _) | omega | (simp; done) | (simp; omega)))⟩
  case round =>
    obtain ⟨k, hk, rfl, rfl, hB⟩ := hrel
    by_cases hlt : k < n
    · obtain ⟨rfl, hb, -, hcap, hmc⟩ := had (by omega)
      have hlI : (k : Int) < n := by omega
      have g0 := below_cell hB hb (hx k hlt 0 (by omega))
      simp only [encI, List.getD_cons_zero, Nat.add_zero, Nat.mul_one] at g0
      clear hx
      go_wp2
      go_roundw
      case rel => exact ⟨k + 1, by omega, by go_num, by go_num, by (repeat' (first | (with_reducible exact Below.refl _ _) | (with_reducible refine Below.alloc ?_ ?_ _) | (with_reducible refine Below.drew ?_) | (with_reducible refine below_drewN ?_ _) | (with_reducible refine Below.setCell ?_ ?_ _) | (with_reducible refine below_via ‹_› ?_ ?_) | (with_reducible refine below_grow ?_ ?_ _ _) | omega | (simp; done) | (simp; omega)))⟩
      case measure => simp [intOf]; omega
    · have e : k = n := by omega
      subst e
      go_wp2
      go_ret
      exact ⟨rfl, by (repeat' (first | (with_reducible exact Below.refl _ _) | (with_reducible refine Below.alloc ?_ ?_ _) | (with_reducible refine Below.drew ?_) | (with_reducible refine below_drewN ?_ _) | (with_reducible refine Below.setCell ?_ ?_ _) | (with_reducible refine below_via ‹_› ?_ ?_) | (with_reducible refine below_grow ?_ ?_ _ _) | omega | (simp; done) | (simp; omega)))⟩
end Go.Proofs.Ytjibilibdjfdcaa
