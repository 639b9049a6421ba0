/- The readers of a law's second bytes, and spec.Decimal. (Cut from XLawFnWindows.) -/
import Derived.Test.YtabbhlehbhadiaaGreatDoorSrc
import Derived.Test.YtabbhlehbhadiaaGreatDoorDec
namespace Go.Proofs.YtabbhlehbhadiaaGreatDoor
open Go.RowKit Go.Sort
set_option linter.unusedVariables false
set_option maxRecDepth 100000

def LongR (n : Nat) (w : World) (e : Ending) (w' : World) : Prop := ∃ b : Bool, e = .returned (.bool b) ∧ (b = false → n ≤ 1048576) ∧ w = w'
theorem c_b10Long (n : Nat) (ad : Option Addr) (c : Nat) (w : World) : Calls Tryz.prog 5 #[.slice ad n c] w (LongR n w) := by
  go_enter Tryz.func5, Tryz.ntmps5
  go_wp2
  all_goals (go_ret; refine ⟨_, rfl, fun h => ?_, rfl⟩; first | (simp at h; done) | (simp at h; omega))
def InN (n : Int) (w : World) (e : Ending) (w' : World) : Prop := ∃ x : Int, e = .returned (.int .i64 x) ∧ 0 ≤ x ∧ (1 ≤ n → x < n) ∧ w = w'
theorem c_b10At (v : Value) (bs : List Int) (i n : Int) (w : World) (h : SlA w 0 1 encU v bs) (hb : ∀ x ∈ bs, 0 ≤ x ∧ x ≤ 255) (hi0 : 0 ≤ i) (hi1 : i ≤ 1000) (hn : n ≤ 1000000000) :
    Calls Tryz.prog 9 #[v, .int .i64 i, .int .i64 n] w (InN n w) := by
  obtain ⟨ad, cap, b, off, rfl, hm, had, hx⟩ := h.uni
  by_cases h1 : n ≤ 1
  · go_enter Tryz.func9, Tryz.ntmps9
    go_wp2_with fail
    go_ret
    exact ⟨_, rfl, by omega, fun _ => by omega, rfl⟩
  · by_cases hl : i < bs.length
    · obtain ⟨k, rfl⟩ : ∃ k : Nat, i = k := ⟨i.toNat, by omega⟩
      have hk : k < bs.length := by omega
      obtain ⟨rfl, hbl, -, hcc, hcm⟩ := had (by omega)
      have x0 := hx k hk 0 (by omega)
      simp only [encU, List.getD_cons_zero, Nat.mul_one, Nat.add_zero] at x0
      have hb8 := hb bs[k] (List.getElem_mem hk)
      clear hx had h
      go_enter Tryz.func9, Tryz.ntmps9
      go_wp2_with fail
      go_ret
      exact ⟨_, rfl, Int.emod_nonneg _ (by omega), fun _ => Int.emod_lt_of_pos _ (by omega), rfl⟩
    · clear hx had h
      go_enter Tryz.func9, Tryz.ntmps9
      go_wp2_with fail
      go_ret
      exact ⟨_, rfl, Int.emod_nonneg _ (by omega), fun _ => Int.emod_lt_of_pos _ (by omega), rfl⟩
theorem c_b10Wide (v : Value) (bs : List Int) (i n : Int) (w : World) (h : SlA w 0 1 encU v bs) (hb : ∀ x ∈ bs, 0 ≤ x ∧ x ≤ 255) (hi0 : 0 ≤ i) (hi1 : i ≤ 900) (h1 : 1 ≤ n) (hn : n ≤ 1000000000) :
    Calls Tryz.prog 15 #[v, .int .i64 i, .int .i64 n] w (InN n w) := by
  go_enter Tryz.func15, Tryz.ntmps15
  go_wp2_with fail
  refine (c_b10At v bs i 256 w h hb hi0 (by omega) (by omega)).mono ?_
  rintro e w' ⟨x, rfl, x0, x1, rfl⟩
  have x2 := x1 (by omega)
  clear x1
  go_wp2_with fail
  refine (c_b10At v bs (i + 1) 256 w h hb (by omega) (by omega) (by omega)).mono ?_
  rintro e w' ⟨y, rfl, y0, y1, rfl⟩
  have y2 := y1 (by omega)
  clear y1
  go_wp2_with fail
  go_ret
  exact ⟨_, rfl, Int.emod_nonneg _ (by omega), fun _ => Int.emod_lt_of_pos _ (by omega), rfl⟩
theorem c_b10AtV (v : Value) (bs : List Int) (i n : Int) (w : World) (h : SlA w 0 1 encU v bs) (hb : ∀ x ∈ bs, 0 ≤ x ∧ x ≤ 255) (hi0 : 0 ≤ i) (hi1 : i ≤ 1000) (h1 : 1 < n) (hn : n ≤ 1000000000) :
    ∃ x : Int, 0 ≤ x ∧ x < n ∧ ∀ w', Below w.heap.size w w' → Calls Tryz.prog 9 #[v, .int .i64 i, .int .i64 n] w' fun e w2 => e = .returned (.int .i64 x) ∧ w2 = w' := by
  obtain ⟨ad, cap, b, off, rfl, hm, had, hx⟩ := h.uni
  by_cases hl : i < bs.length
  · obtain ⟨k, rfl⟩ : ∃ k : Nat, i = k := ⟨i.toNat, by omega⟩
    have hk : k < bs.length := by omega
    obtain ⟨rfl, hbl, -, hcc, hcm⟩ := had (by omega)
    have x0 := hx k hk 0 (by omega)
    simp only [encU, List.getD_cons_zero, Nat.mul_one, Nat.add_zero] at x0
    have hb8 := hb bs[k] (List.getElem_mem hk)
    refine ⟨bs[k] % n, Int.emod_nonneg _ (by omega), Int.emod_lt_of_pos _ (by omega), fun w' hw => ?_⟩
    have x1 := below_cell hw hbl x0
    clear hx had h x0 hw
    go_enter Tryz.func9, Tryz.ntmps9
    go_wp2_with fail
    go_ret
    exact ⟨rfl, rfl⟩
  · refine ⟨(i * 37 + 11) % n, Int.emod_nonneg _ (by omega), Int.emod_lt_of_pos _ (by omega), fun w' hw => ?_⟩
    clear hx had h hw
    go_enter Tryz.func9, Tryz.ntmps9
    go_wp2_with fail
    go_ret
    exact ⟨rfl, rfl⟩
end Go.Proofs.YtabbhlehbhadiaaGreatDoor
