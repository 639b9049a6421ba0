/- Calls: the copy, the size, equality, the wait. -/
import Derived.Test.YtmolcfagmiecjaaNames
import Derived.Test.YtmolcfagmiecjaaTCall
namespace Go.Proofs.Ytmolcfagmiecjaa
open Go.RowKit

/-! ### the wait -/
def waitOne (d : CallD) : Int := if inB d.fArrive 0 43200 && inB d.fBegin d.fArrive 43200 then d.fBegin - d.fArrive else 0
def waitS : List CallD → Int
  | [] => 0
  | d :: l => waitOne d + waitS l
theorem waitOne_bd (d : CallD) : 0 ≤ waitOne d ∧ waitOne d ≤ 43200 := by
  unfold waitOne inB
  split
  · rename_i h; simp at h; omega
  · omega


theorem wait_impl {d : CallD} (h : 0 ≤ d.fArrive) (h2 : inB d.fBegin d.fArrive 43200 = true) : waitOne d = d.fBegin - d.fArrive := by
  have := inB_true h2
  rw [waitOne, h2, inB_of h (by omega)]; simp

set_option maxHeartbeats 400000 in
theorem c_impl_WaitOf (v : Value) (xs : List CallD) (w : World) (h : SlA w 0 4 encCall v xs) (hl : xs.length ≤ 1048576) :
    Calls Try.prog 24 #[v] w fun e w' => e = .returned (.int .i64 (waitS xs)) ∧ Below w.heap.size w w' := by
  rcases h with ⟨a, cap, rfl, rfl, hcap⟩ | ⟨b, off, cap, rfl, hp, hc, hm, _, hb, hx⟩
  · go_enter Try.func24, Try.ntmps24
    go_wp2
    refine wp_loop_rounds 1 ?_
    rw [rounds_succ]
    go_wp2
    go_ret
    exact ⟨rfl, Below.refl _ _⟩
  · unfold maxLen at hm
    go_enter Try.func24, Try.ntmps24
    go_wp2
    go_loopw [3, 8] (fun t i wr => ∃ (k : Nat) (n : Int), k ≤ xs.length ∧ i = .int .i64 k ∧ t = .int .i64 n ∧ 0 ≤ n ∧ n ≤ 43200 * k ∧ n + waitS (xs.drop k) = waitS xs ∧ Below w.heap.size w wr) (fun _ i _ => xs.length - (intOf i).toNat)
    case atStart => exact ⟨0, 0, Nat.zero_le _, rfl, rfl, by omega, by omega, by simp, Below.refl _ _⟩
    case round =>
      obtain ⟨k, n, hk, rfl, rfl, hn0, hn1, hs, hB⟩ := hrel
      obtain ⟨hc0, hf0⟩ := bcell hB
      have hz := hB.size
      by_cases hlt : k < xs.length
      · have hlI : (k : Int) < xs.length := by omega
        have g0 := (hc0 b _ hb).trans (hx k hlt 0 (by omega))
        have g1 := (hc0 b _ hb).trans (hx k hlt 1 (by omega))
        have g2 := (hc0 b _ hb).trans (hx k hlt 2 (by omega))
        have g3 := (hc0 b _ hb).trans (hx k hlt 3 (by omega))
        simp only [encCall, List.getD_cons_zero, List.getD_cons_succ, Nat.add_zero] at g0 g1 g2 g3
        rw [drop_cons xs k hlt, waitS] at hs
        have HS := hid hs; clear hs
        clear hc0 hf0 hx
        by_cases h1 : 0 ≤ xs[k].fArrive
        · have hd : decide (0 ≤ xs[k].fArrive) = true := by simpa using h1
          cases h2 : inB xs[k].fBegin xs[k].fArrive 43200
          · go_wp2_with (first | (go_at_call 73; refine (c_within _ _ _ _).mono ?_; rintro e w' ⟨rfl, rfl⟩))
            go_roundw
            case rel => exact ⟨k+1, n, by omega, by go_num, rfl, hn0, by omega, by rw [← HS.out, waitOne, h2]; simp, by (repeat' (first | (with_reducible exact Below.refl _ _) | (with_reducible refine Below.alloc ?_ ?_ _) | (with_reducible refine Below.drew ?_) | (with_reducible refine below_drewN ?_ _) | (with_reducible refine Below.setCell ?_ ?_ _) | (with_reducible refine below_via ‹_› ?_ ?_) | (with_reducible refine below_grow ?_ ?_ _ _) | omega | (simp; done) | (simp; omega)))⟩
            case measure => simp [intOf]; omega
          · have h4 := inB_true h2
            go_wp2_with (first | (go_at_call 73; refine (c_within _ _ _ _).mono ?_; rintro e w' ⟨rfl, rfl⟩))
            go_roundw
            case rel => exact ⟨k+1, n + (xs[k].fBegin - xs[k].fArrive), by omega, by go_num, rfl, by omega, by omega, by rw [← HS.out, wait_impl h1 h2]; omega, by (repeat' (first | (with_reducible exact Below.refl _ _) | (with_reducible refine Below.alloc ?_ ?_ _) | (with_reducible refine Below.drew ?_) | (with_reducible refine below_drewN ?_ _) | (with_reducible refine Below.setCell ?_ ?_ _) | (with_reducible refine below_via ‹_› ?_ ?_) | (with_reducible refine below_grow ?_ ?_ _ _) | omega | (simp; done) | (simp; omega)))⟩
            case measure => simp [intOf]; omega
        · have hI : inB xs[k].fArrive 0 43200 = false := by simp [inB]; omega
          have HI := hid hI; clear hI
          go_wp2_with (first | (go_at_call 73; refine (c_within _ _ _ _).mono ?_; rintro e w' ⟨rfl, rfl⟩))
          go_roundw
          case rel => exact ⟨k+1, n, by omega, by go_num, rfl, hn0, by omega, by rw [← HS.out, waitOne, HI.out]; simp, by (repeat' (first | (with_reducible exact Below.refl _ _) | (with_reducible refine Below.alloc ?_ ?_ _) | (with_reducible refine Below.drew ?_) | (with_reducible refine below_drewN ?_ _) | (with_reducible refine Below.setCell ?_ ?_ _) | (with_reducible refine below_via ‹_› ?_ ?_) | (with_reducible refine below_grow ?_ ?_ _ _) | omega | (simp; done) | (simp; omega)))⟩
          case measure => simp [intOf]; omega
      · have e : k = xs.length := by omega
        have hr : n = waitS xs := by rw [e] at hs; simpa [waitS] using hs
        have HR := hid hr
        clear hr e hs
        go_wp2
        go_ret
        exact ⟨by rw [← HR.out]; rfl, by (repeat' (first | (with_reducible exact Below.refl _ _) | (with_reducible refine Below.alloc ?_ ?_ _) | (with_reducible refine Below.drew ?_) | (with_reducible refine below_drewN ?_ _) | (with_reducible refine Below.setCell ?_ ?_ _) | (with_reducible refine below_via ‹_› ?_ ?_) | (with_reducible refine below_grow ?_ ?_ _ _) | omega | (simp; done) | (simp; omega)))⟩
end Go.Proofs.Ytmolcfagmiecjaa
