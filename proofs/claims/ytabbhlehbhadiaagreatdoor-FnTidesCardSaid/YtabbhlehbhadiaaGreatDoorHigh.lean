/- The times of high water on both sides. -/
import Derived.Test.YtabbhlehbhadiaaGreatDoorTide
namespace Go.Proofs.YtabbhlehbhadiaaGreatDoor
open Go.RowKit Go.Sort
set_option maxRecDepth 100000

def hiL (xs : List Int) (k : Nat) : Bool := ((k : Int) == 0) || decide (xs.getD (k - 1) 0 < xs.getD k 0)
def hiR (xs : List Int) (k : Nat) : Bool := ((k : Int) == (xs.length : Int) - 1) || decide (xs.getD (k + 1) 0 < xs.getD k 0)
def highsU (a b : Int) (xs : List Int) : Nat → List Int
  | 0 => []
  | n + 1 => highsU a b xs n ++ (if hiL xs n && hiR xs n then [a + b * n] else [])
def highR (a b : Int) (xs : List Int) : List Int := if tideB a b xs then highsU a b xs xs.length else []
theorem highsU_len (a b : Int) (xs : List Int) : ∀ n, (highsU a b xs n).length ≤ n
  | 0 => by simp [highsU]
  | n + 1 => by have := highsU_len a b xs n; simp only [highsU, List.length_append]; split <;> simp <;> omega
theorem highR_len (a b : Int) (xs : List Int) : (highR a b xs).length ≤ xs.length := by
  unfold highR; split
  · exact highsU_len a b xs _
  · simp
theorem hiL_cases {xs : List Int} {k : Nat} (h : k < xs.length) : (((k : Int) == 0) = true ∧ k = 0 ∧ hiL xs k = true) ∨ (((k : Int) == 0) = false ∧ 1 ≤ k ∧ decide (xs[k - 1] < xs[k]) = true ∧ hiL xs k = true) ∨ (((k : Int) == 0) = false ∧ 1 ≤ k ∧ decide (xs[k - 1] < xs[k]) = false ∧ hiL xs k = false) := by
  have e1 : xs.getD k 0 = xs[k] := by simp [List.getD, h]
  have e2 : xs.getD (k - 1) 0 = xs[k - 1] := by have : k - 1 < xs.length := by omega
                                                simp [List.getD, this]
  unfold hiL
  rw [e1, e2]
  by_cases h0 : k = 0
  · left; subst h0; simp
  · right
    have hb : ((k : Int) == 0) = false := by simp; omega
    by_cases h1 : xs[k - 1] < xs[k]
    · left; exact ⟨hb, by omega, by simpa using h1, by simp [h1]⟩
    · right; exact ⟨hb, by omega, by simpa using h1, by rw [hb]; simpa using h1⟩
theorem hiR_cases {xs : List Int} {k : Nat} (h : k < xs.length) : (((k : Int) == (xs.length : Int) - 1) = true ∧ hiR xs k = true) ∨ (∃ h' : k + 1 < xs.length, ((k : Int) == (xs.length : Int) - 1) = false ∧ decide (xs[k + 1] < xs[k]) = true ∧ hiR xs k = true) ∨ (∃ h' : k + 1 < xs.length, ((k : Int) == (xs.length : Int) - 1) = false ∧ decide (xs[k + 1] < xs[k]) = false ∧ hiR xs k = false) := by
  have e1 : xs.getD k 0 = xs[k] := by simp [List.getD, h]
  unfold hiR
  rw [e1]
  by_cases h0 : k + 1 = xs.length
  · left; have : ((k : Int) == (xs.length : Int) - 1) = true := by simp; omega
    simp [this]
  · right
    have h' : k + 1 < xs.length := by omega
    have e2 : xs.getD (k + 1) 0 = xs[k + 1] := by simp [List.getD, h']
    have hb : ((k : Int) == (xs.length : Int) - 1) = false := by simp; omega
    rw [e2]
    by_cases h1 : xs[k + 1] < xs[k]
    · left; exact ⟨h', hb, by simpa using h1, by simp [h1]⟩
    · right; exact ⟨h', hb, by simpa using h1, by rw [hb]; simpa using h1⟩
theorem highsU_t {a b : Int} {xs : List Int} {k : Nat} (h1 : Hid (hiL xs k = true)) (h2 : Hid (hiR xs k = true)) : highsU a b xs (k + 1) = highsU a b xs k ++ [a + k * b] := by
  rw [highsU, h1.out, h2.out, Int.mul_comm]; rfl
theorem highsU_t' {a b : Int} {xs : List Int} {k : Nat} (h1 : Hid (hiL xs k = true)) (h2 : Hid (hiR xs k = true)) : highsU a b xs (k + 1) = highsU a b xs k ++ [a + b * k] := by
  rw [highsU, h1.out, h2.out]; rfl
theorem highsU_f {a b : Int} {xs : List Int} {k : Nat} (h : Hid (hiL xs k = false) ∨ Hid (hiR xs k = false)) : highsU a b xs (k + 1) = highsU a b xs k := by
  rw [highsU]
  rcases h with h | h <;> simp [h.out]
set_option maxHeartbeats 2000000 in
theorem c_impl_HighWaters (a b : Int) (v : Value) (xs : List Int) (w : World) (h : SlA w 0 1 encI v xs) (hl : xs.length ≤ 1048576) :
    Calls Tryz.prog 10 #[.agg #[.int .i64 a, .int .i64 b, v]] w fun e w' => ∃ u, e = .returned (.tuple #[u, .int .i64 (tideC a b xs)]) ∧ Below w.heap.size w w' ∧ SlO w' w.heap.size 1 encI u (highR a b xs) := by
  have h' := h
  obtain ⟨i0, hi, iz0, iz1, iz2⟩ := info_parts info_Int64
  obtain ⟨ad, cap, bk, off, rfl, hm, had, hx⟩ := h.uni
  cases hv : tideB a b xs
  · go_enter Tryz.func10, Tryz.ntmps10
    go_wp2_with (first | (go_at_call 32; refine (c_impl_ValidTide _ _ _ _ _ (by first | (with_reducible assumption) | (with_reducible apply SlO.at; (with_reducible assumption); (repeat' (first | (with_reducible exact Below.refl _ _) | (with_reducible refine Below.alloc ?_ ?_ _) | (with_reducible refine Below.drew ?_) | (with_reducible refine below_drewN ?_ _) | (with_reducible refine Below.setCell ?_ ?_ _) | (with_reducible refine below_via ‹_› ?_ ?_) | (with_reducible refine below_grow ?_ ?_ _ _) | omega | (simp; done) | (simp; omega))); done) | (with_reducible apply SlA.at; (with_reducible assumption); (repeat' (first | (with_reducible exact Below.refl _ _) | (with_reducible refine Below.alloc ?_ ?_ _) | (with_reducible refine Below.drew ?_) | (with_reducible refine below_drewN ?_ _) | (with_reducible refine Below.setCell ?_ ?_ _) | (with_reducible refine below_via ‹_› ?_ ?_) | (with_reducible refine below_grow ?_ ?_ _ _) | omega | (simp; done) | (simp; omega))); done)) (by omega)).mono ?_; rintro e w1 ⟨rfl, hb⟩; obtain ⟨hc, hf⟩ := bcell hb; have hz := hb.size; (try simp at hz); (try have hz0 : ∀ b, b < w.heap.size → b < w1.heap.size := fun b h => by omega); (try have hz1 : w.heap.size < w1.heap.size := by omega); (try have hz2 : w.heap.size + 1 < w1.heap.size := by omega); (try have hz3 : w.heap.size + 2 < w1.heap.size := by omega)))
    go_ret2
    exact ⟨_, by simp [tideC, hv], by (repeat' (first | (with_reducible exact Below.refl _ _) | (with_reducible refine Below.alloc ?_ ?_ _) | (with_reducible refine Below.drew ?_) | (with_reducible refine below_drewN ?_ _) | (with_reducible refine Below.setCell ?_ ?_ _) | (with_reducible refine below_via ‹_› ?_ ?_) | (with_reducible refine below_grow ?_ ?_ _ _) | omega | (simp; done) | (simp; omega))), .inl ⟨none, 0, rfl, by simp [highR, hv], Nat.zero_le _⟩, fun g hg => by simp [Value.ownBlock] at hg⟩
  · obtain ⟨-, e1, e2, e3, e4, e5, e6, e7, e8⟩ := tideB_true hv
    obtain ⟨rfl, hbb, -, hcc, hmc⟩ := had (by omega)
    go_enter Tryz.func10, Tryz.ntmps10
    go_wp2_with (first | (go_at_call 32; refine (c_impl_ValidTide _ _ _ _ _ (by first | (with_reducible assumption) | (with_reducible apply SlO.at; (with_reducible assumption); (repeat' (first | (with_reducible exact Below.refl _ _) | (with_reducible refine Below.alloc ?_ ?_ _) | (with_reducible refine Below.drew ?_) | (with_reducible refine below_drewN ?_ _) | (with_reducible refine Below.setCell ?_ ?_ _) | (with_reducible refine below_via ‹_› ?_ ?_) | (with_reducible refine below_grow ?_ ?_ _ _) | omega | (simp; done) | (simp; omega))); done) | (with_reducible apply SlA.at; (with_reducible assumption); (repeat' (first | (with_reducible exact Below.refl _ _) | (with_reducible refine Below.alloc ?_ ?_ _) | (with_reducible refine Below.drew ?_) | (with_reducible refine below_drewN ?_ _) | (with_reducible refine Below.setCell ?_ ?_ _) | (with_reducible refine below_via ‹_› ?_ ?_) | (with_reducible refine below_grow ?_ ?_ _ _) | omega | (simp; done) | (simp; omega))); done)) (by omega)).mono ?_; rintro e w1 ⟨rfl, hb⟩; obtain ⟨hc, hf⟩ := bcell hb; have hz := hb.size; (try simp at hz); (try have hz0 : ∀ b, b < w.heap.size → b < w1.heap.size := fun b h => by omega); (try have hz1 : w.heap.size < w1.heap.size := by omega); (try have hz2 : w.heap.size + 1 < w1.heap.size := by omega); (try have hz3 : w.heap.size + 2 < w1.heap.size := by omega)))
    have HV := hid hv; clear hv
    have HR := hid (show highR a b xs = highsU a b xs xs.length by rw [highR, HV.out]; rfl)
    have hz' : w.heap.size + 1 ≤ w1.heap.size := by have := hb.size; simp at this; omega
    have hB0 : Below w.heap.size w w1 := by (repeat' (first | (with_reducible exact Below.refl _ _) | (with_reducible refine Below.alloc ?_ ?_ _) | (with_reducible refine Below.drew ?_) | (with_reducible refine below_drewN ?_ _) | (with_reducible refine Below.setCell ?_ ?_ _) | (with_reducible refine below_via ‹_› ?_ ?_) | (with_reducible refine below_grow ?_ ?_ _ _) | omega | (simp; done) | (simp; omega)))
    have hown0 : (w1.alloc (.cells #[] 2)).ownsRow w1.heap.size 2 1 (.slice (some ⟨w1.heap.size, 0, none⟩) 0 0) 0 [] := World.ownsRow_made w1 #[] 0 (Nat.le_refl _) (Nat.zero_le _) rfl
    have kb0 : w1.cell? ⟨w.heap.size, 0, none⟩ = some (.int .i64 a) := by simp [*, go_sem]
    have kb1 : w1.cell? ⟨w.heap.size, 1, none⟩ = some (.int .i64 b) := by simp [*, go_sem]
    have kb2 : w1.cell? ⟨w.heap.size, 2, none⟩ = some (.slice (some ⟨bk, off, none⟩) xs.length cap) := by simp [*, go_sem]
    have hx1 : ∀ i, (h : i < xs.length) → w1.cell? ⟨bk, off + i, none⟩ = some (.int .i64 xs[i]) := fun i hi => by
      have := hx i hi 0 (by omega)
      simp only [encI, List.getD_cons_zero, Nat.add_zero, Nat.mul_one] at this
      exact (hB0.cell (p := ⟨bk, off + i, none⟩) hbb).trans this
    have hbb1 : bk < w1.heap.size := by omega
    have hw1 : w.heap.size < w1.heap.size := by omega
    clear hc hf hb hz hx
    go_loopw [4, 14] (fun u i wr => ∃ k : Nat, k ≤ xs.length ∧ i = .int .i64 k ∧ wr.ownsRow w1.heap.size 2 1 u (highsU a b xs k).length ((highsU a b xs k).map (Value.int .i64)) ∧ Below w1.heap.size w1 wr) (fun _ i _ => xs.length - (intOf i).toNat)
    case atStart => exact ⟨0, Nat.zero_le _, rfl, hown0, by (repeat' (first | (with_reducible exact Below.refl _ _) | (with_reducible refine Below.alloc ?_ ?_ _) | (with_reducible refine Below.drew ?_) | (with_reducible refine below_drewN ?_ _) | (with_reducible refine Below.setCell ?_ ?_ _) | (with_reducible refine below_via ‹_› ?_ ?_) | (with_reducible refine below_grow ?_ ?_ _ _) | omega | (simp; done) | (simp; omega)))⟩
    case round =>
      clear hown0
      obtain ⟨k, hk, rfl, hown, hB⟩ := hrel
      by_cases hlt : k < xs.length
      · have hlI : (k : Int) < xs.length := by omega
        have q0 := below_cell hB hw1 kb0
        have q1 := below_cell hB hw1 kb1
        have q2 := below_cell hB hw1 kb2
        have g0 := below_cell hB hbb1 (hx1 k hlt)
        have hmul := mul_bd (a := (k : Int)) (b := b) (A := 63) (B := 1000) (by omega) (by omega) (by omega) (by omega)
        have hlen := highsU_len a b xs k
        have hzr := hB.size
        clear kb0 kb1 kb2
        have HX := hid hx1; clear hx1
        rcases hiL_cases hlt with ⟨d1, -, d3⟩ | ⟨d1, d2, d4, d3⟩ | ⟨d1, d2, d4, d3⟩ <;> rcases hiR_cases hlt with ⟨f1, f3⟩ | ⟨hn, f1, f4, f3⟩ | ⟨hn, f1, f4, f3⟩
        all_goals have D3 := hid d3; have F3 := hid f3; clear d3 f3
        case inl.inl =>
          go_wp2_with (at_builtin; refine wpList_append_own _ rfl (.tmp 49) (.tmp 57) 24 rfl w1.heap.size 2 i0 (.int .i64 0) 1 8 Tryz.underlying24 hi iz0 iz1 iz2 rfl (by decide) _ _ _ rfl (hown.alloc _) ⟨wr.heap.size, 0, none⟩ 1 1 [.int .i64 (a + (k : Int) * b)] rfl rfl (cell_one_new _ _ _) (by intro u hu; simp at hu; subst hu; rfl) (by unfold maxLen; omega) (by omega) (by simp; omega) ?_; intro v1 w2 hown1 hgrow1 hnil1)
          go_roundw
          case rel => exact ⟨k + 1, by omega, rfl, by rw [highsU_t D3 F3]; simpa using hown1, (hB.alloc (by omega) _).grown hgrow1 (by simp; omega) (fun j hj => (hown.lt j hj).1)⟩
          case measure => simp [intOf]; omega
        case inl.inr.inl =>
          have g1 := below_cell hB hbb1 (HX.out (k + 1) hn)
          go_wp2_with (at_builtin; refine wpList_append_own _ rfl (.tmp 49) (.tmp 57) 24 rfl w1.heap.size 2 i0 (.int .i64 0) 1 8 Tryz.underlying24 hi iz0 iz1 iz2 rfl (by decide) _ _ _ rfl (hown.alloc _) ⟨wr.heap.size, 0, none⟩ 1 1 [.int .i64 (a + (k : Int) * b)] rfl rfl (cell_one_new _ _ _) (by intro u hu; simp at hu; subst hu; rfl) (by unfold maxLen; omega) (by omega) (by simp; omega) ?_; intro v1 w2 hown1 hgrow1 hnil1)
          go_roundw
          case rel => exact ⟨k + 1, by omega, rfl, by rw [highsU_t D3 F3]; simpa using hown1, (hB.alloc (by omega) _).grown hgrow1 (by simp; omega) (fun j hj => (hown.lt j hj).1)⟩
          case measure => simp [intOf]; omega
        case inl.inr.inr =>
          have g1 := below_cell hB hbb1 (HX.out (k + 1) hn)
          go_wp2
          go_roundw
          case rel => exact ⟨k + 1, by omega, rfl, by rw [highsU_f (.inr F3)]; exact hown, hB⟩
          case measure => simp [intOf]; omega
        case inr.inl.inl =>
          have g2 := below_cell hB hbb1 (HX.out (k - 1) (by omega))
          go_wp2_with (at_builtin; refine wpList_append_own _ rfl (.tmp 49) (.tmp 57) 24 rfl w1.heap.size 2 i0 (.int .i64 0) 1 8 Tryz.underlying24 hi iz0 iz1 iz2 rfl (by decide) _ _ _ rfl (hown.alloc _) ⟨wr.heap.size, 0, none⟩ 1 1 [.int .i64 (a + (k : Int) * b)] rfl rfl (cell_one_new _ _ _) (by intro u hu; simp at hu; subst hu; rfl) (by unfold maxLen; omega) (by omega) (by simp; omega) ?_; intro v1 w2 hown1 hgrow1 hnil1)
          go_roundw
          case rel => exact ⟨k + 1, by omega, rfl, by rw [highsU_t D3 F3]; simpa using hown1, (hB.alloc (by omega) _).grown hgrow1 (by simp; omega) (fun j hj => (hown.lt j hj).1)⟩
          case measure => simp [intOf]; omega
        case inr.inl.inr.inl =>
          have g2 := below_cell hB hbb1 (HX.out (k - 1) (by omega))
          have g1 := below_cell hB hbb1 (HX.out (k + 1) hn)
          go_wp2_with (at_builtin; refine wpList_append_own _ rfl (.tmp 49) (.tmp 57) 24 rfl w1.heap.size 2 i0 (.int .i64 0) 1 8 Tryz.underlying24 hi iz0 iz1 iz2 rfl (by decide) _ _ _ rfl (hown.alloc _) ⟨wr.heap.size, 0, none⟩ 1 1 [.int .i64 (a + (k : Int) * b)] rfl rfl (cell_one_new _ _ _) (by intro u hu; simp at hu; subst hu; rfl) (by unfold maxLen; omega) (by omega) (by simp; omega) ?_; intro v1 w2 hown1 hgrow1 hnil1)
          go_roundw
          case rel => exact ⟨k + 1, by omega, rfl, by rw [highsU_t D3 F3]; simpa using hown1, (hB.alloc (by omega) _).grown hgrow1 (by simp; omega) (fun j hj => (hown.lt j hj).1)⟩
          case measure => simp [intOf]; omega
        case inr.inl.inr.inr =>
          have g2 := below_cell hB hbb1 (HX.out (k - 1) (by omega))
          have g1 := below_cell hB hbb1 (HX.out (k + 1) hn)
          go_wp2
          go_roundw
          case rel => exact ⟨k + 1, by omega, rfl, by rw [highsU_f (.inr F3)]; exact hown, hB⟩
          case measure => simp [intOf]; omega
        case inr.inr.inl =>
          have g2 := below_cell hB hbb1 (HX.out (k - 1) (by omega))
          go_wp2
          go_roundw
          case rel => exact ⟨k + 1, by omega, rfl, by rw [highsU_f (.inl D3)]; exact hown, hB⟩
          case measure => simp [intOf]; omega
        case inr.inr.inr.inl =>
          have g2 := below_cell hB hbb1 (HX.out (k - 1) (by omega))
          have g1 := below_cell hB hbb1 (HX.out (k + 1) hn)
          go_wp2
          go_roundw
          case rel => exact ⟨k + 1, by omega, rfl, by rw [highsU_f (.inl D3)]; exact hown, hB⟩
          case measure => simp [intOf]; omega
        case inr.inr.inr.inr =>
          have g2 := below_cell hB hbb1 (HX.out (k - 1) (by omega))
          have g1 := below_cell hB hbb1 (HX.out (k + 1) hn)
          go_wp2
          go_roundw
          case rel => exact ⟨k + 1, by omega, rfl, by rw [highsU_f (.inl D3)]; exact hown, hB⟩
          case measure => simp [intOf]; omega
      · have e : k = xs.length := by omega
        subst e
        go_wp2
        have hown2 := hown
        rw [← flat_encI] at hown2
        have hSl := (SlO.of_owns (enc := encI) (fun _ => rfl) hown2 rfl).mono (Nat.le_of_lt hw1)
        rw [← HR.out] at hSl
        have hBB : Below w.heap.size w wr := by (repeat' (first | (with_reducible exact Below.refl _ _) | (with_reducible refine Below.alloc ?_ ?_ _) | (with_reducible refine Below.drew ?_) | (with_reducible refine below_drewN ?_ _) | (with_reducible refine Below.setCell ?_ ?_ _) | (with_reducible refine below_via ‹_› ?_ ?_) | (with_reducible refine below_grow ?_ ?_ _ _) | omega | (simp; done) | (simp; omega)))
        go_ret2
        exact ⟨_, by rw [tideC, HV.out]; rfl, hBB, hSl⟩
end Go.Proofs.YtabbhlehbhadiaaGreatDoor
