/- The program's warning put into a list. -/
import Derived.Test.YtajlllpjgeoliaaWarnI
import Derived.Deep.RegionHeld3
namespace Go.Proofs.Ytajlllpjgeoliaa
open Go.RowKit Go.Sort
set_option linter.unusedVariables false
set_option maxRecDepth 100000

theorem own_belowW {w w' : World} {base e g n cap : Nat} {cs : List Value} (h : w.ownsRow base e 8 (.slice (some ⟨g, 0, none⟩) n cap) n cs) {B : Nat} (hb : Below B w w') (hB : w.heap.size ≤ B) : w'.ownsRow base e 8 (.slice (some ⟨g, 0, none⟩) n cap) n cs := by
  obtain ⟨h0, h⟩ := h
  refine ⟨h0, ?_⟩
  rcases h with h | ⟨g', cap', cur, e1, hg, hh, h4⟩
  · exact .inl h
  · have hlt := (Array.getElem?_eq_some_iff.1 hh).1
    exact .inr ⟨g', cap', cur, e1, hg, by rw [hb.block g' (by omega)]; exact hh, h4⟩
theorem c_insert (base q i : Nat) (xs : List WarningD) (d : WarningD) (w : World) (hi : i ≤ xs.length) (hbs : base < w.heap.size) (hown : w.ownsRow base 35 8 (.slice (some ⟨base, 0, none⟩) xs.length xs.length) xs.length (xs.flatMap encWarning)) (hq : q < w.heap.size) (hv : ∀ j, j < 8 → w.cell? ⟨q, j, none⟩ = some ((encWarning d).getD j undef)) (hl : xs.length ≤ 1048576) :
    Calls Try.prog 35 #[.slice (some ⟨base, 0, none⟩) xs.length xs.length, .int .i64 i, .slice (some ⟨q, 0, none⟩) 1 1] w (InsR base i xs d w) := by
  by_cases h : i = xs.length
  · subst h
    refine c_insert_end base q xs d w hbs hown (.inr ⟨q, 0, 1, rfl, by simp, by simp, by unfold maxLen; omega, Nat.zero_le _, hq, fun k hk j hj => ?_⟩) hl
    have : k = 0 := by simp at hk; exact hk
    subst this
    simpa using hv j hj
  · exact c_insert_mid base q i xs d w (by omega) hbs hown hq hv hl
theorem cells8 {w : World} {q : Nat} {n p f u x y r : Int} {s : ByteArray} (h0 : w.cell? ⟨q, 0, none⟩ = some (.int .i64 n)) (h1 : w.cell? ⟨q, 1, none⟩ = some (.int .i64 p)) (h2 : w.cell? ⟨q, 2, none⟩ = some (.int .i64 f)) (h3 : w.cell? ⟨q, 3, none⟩ = some (.int .i64 u)) (h4 : w.cell? ⟨q, 4, none⟩ = some (.int .i64 x))
    (h5 : w.cell? ⟨q, 5, none⟩ = some (.int .i64 y)) (h6 : w.cell? ⟨q, 6, none⟩ = some (.int .i64 r)) (h7 : w.cell? ⟨q, 7, none⟩ = some (.string s)) : ∀ j, j < 8 → w.cell? ⟨q, j, none⟩ = some ((encWarning ⟨n, p, f, u, x, y, r, s⟩).getD j undef) := by
  intro j hj
  match j, hj with
  | 0, _ => exact h0
  | 1, _ => exact h1
  | 2, _ => exact h2
  | 3, _ => exact h3
  | 4, _ => exact h4
  | 5, _ => exact h5
  | 6, _ => exact h6
  | 7, _ => exact h7
set_option maxHeartbeats 4000000 in
theorem c_impl_AddWarning (v : Value) (xs : List WarningD) (n p f u x y r : Int) (s : ByteArray) (w : World) (h : SlA w 0 8 encWarning v xs) (hok : ∀ x ∈ xs, okWarning x) (hs : s.size ≤ maxLen) :
    Calls Try.prog 11 #[v, .agg #[.int .i64 n, .int .i64 p, .int .i64 f, .int .i64 u, .int .i64 x, .int .i64 y, .int .i64 r, .string s]] w (WarnCode (adR xs ⟨n, p, f, u, x, y, r, s⟩) (adC xs ⟨n, p, f, u, x, y, r, s⟩) w) := by
  cases hq : warnsB xs
  · have HR := hid (show adR xs ⟨n, p, f, u, x, y, r, s⟩ = [] ∧ adC xs ⟨n, p, f, u, x, y, r, s⟩ = 1 by simp [adR, adC, hq])
    go_enter Try.func11, Try.ntmps11
    go_wp2_with (first | (go_at_call 32; refine (c_ValidWarnings _ _ _ (by first | (with_reducible assumption) | (with_reducible apply SlO.at; (with_reducible assumption); (repeat' (first | (with_reducible exact Below.refl _ _) | (with_reducible refine Below.alloc ?_ ?_ _) | (with_reducible refine Below.drew ?_) | (with_reducible refine below_drewN ?_ _) | (with_reducible refine Below.setCell ?_ ?_ _) | (with_reducible refine below_via ‹_› ?_ ?_) | (with_reducible refine below_grow ?_ ?_ _ _) | omega | (simp; done) | (simp; omega))); done) | (with_reducible apply SlA.at; (with_reducible assumption); (repeat' (first | (with_reducible exact Below.refl _ _) | (with_reducible refine Below.alloc ?_ ?_ _) | (with_reducible refine Below.drew ?_) | (with_reducible refine below_drewN ?_ _) | (with_reducible refine Below.setCell ?_ ?_ _) | (with_reducible refine below_via ‹_› ?_ ?_) | (with_reducible refine below_grow ?_ ?_ _ _) | omega | (simp; done) | (simp; omega))); done)) (by assumption)).mono ?_; rintro e w1 ⟨rfl, hb⟩; obtain ⟨hc, hf⟩ := bcell hb; have hz := hb.size; (try simp at hz); (try have hz0 : ∀ b, b < w.heap.size → b < w1.heap.size := fun b h => by omega); (try have hz1 : w.heap.size < w1.heap.size := by omega); (try have hz2 : w.heap.size + 1 < w1.heap.size := by omega); (try have hz3 : w.heap.size + 2 < w1.heap.size := by omega)))
    go_ret2
    rw [HR.out.2]
    exact warnCode_none (by (repeat' (first | (with_reducible exact Below.refl _ _) | (with_reducible refine Below.alloc ?_ ?_ _) | (with_reducible refine Below.drew ?_) | (with_reducible refine below_drewN ?_ _) | (with_reducible refine Below.setCell ?_ ?_ _) | (with_reducible refine below_via ‹_› ?_ ?_) | (with_reducible refine below_grow ?_ ?_ _ _) | omega | (simp; done) | (simp; omega)))) HR.out.1
  · have HQ := hid hq
    go_enter Try.func11, Try.ntmps11
    go_wp2_with fail
    refine (c_ValidWarnings v xs _ (by first | (with_reducible assumption) | (with_reducible apply SlO.at; (with_reducible assumption); (repeat' (first | (with_reducible exact Below.refl _ _) | (with_reducible refine Below.alloc ?_ ?_ _) | (with_reducible refine Below.drew ?_) | (with_reducible refine below_drewN ?_ _) | (with_reducible refine Below.setCell ?_ ?_ _) | (with_reducible refine below_via ‹_› ?_ ?_) | (with_reducible refine below_grow ?_ ?_ _ _) | omega | (simp; done) | (simp; omega))); done) | (with_reducible apply SlA.at; (with_reducible assumption); (repeat' (first | (with_reducible exact Below.refl _ _) | (with_reducible refine Below.alloc ?_ ?_ _) | (with_reducible refine Below.drew ?_) | (with_reducible refine below_drewN ?_ _) | (with_reducible refine Below.setCell ?_ ?_ _) | (with_reducible refine below_via ‹_› ?_ ?_) | (with_reducible refine below_grow ?_ ?_ _ _) | omega | (simp; done) | (simp; omega))); done)) hok).mono ?_
    rintro e w1 ⟨rfl, hb1⟩
    rw [hq]
    obtain ⟨hc1, hf1⟩ := bcell hb1; have hz1 := hb1.size; (try simp at hz1); (try have hy : w.heap.size < w1.heap.size := by omega); (try have hy : w.heap.size ≤ w1.heap.size := by omega); (try have hy : w.heap.size + 1 < w1.heap.size := by omega); (try have hy : w.heap.size + 1 ≤ w1.heap.size := by omega); (try have hy : w.heap.size + 2 < w1.heap.size := by omega); (try have hy : w.heap.size + 2 ≤ w1.heap.size := by omega)
    have q0 : w1.cell? ⟨w.heap.size, 0, none⟩ = some (.int .i64 n) := by simp [hc1, go_sem]
    have q1 : w1.cell? ⟨w.heap.size, 1, none⟩ = some (.int .i64 p) := by simp [hc1, go_sem]
    have q2 : w1.cell? ⟨w.heap.size, 2, none⟩ = some (.int .i64 f) := by simp [hc1, go_sem]
    have q3 : w1.cell? ⟨w.heap.size, 3, none⟩ = some (.int .i64 u) := by simp [hc1, go_sem]
    have q4 : w1.cell? ⟨w.heap.size, 4, none⟩ = some (.int .i64 x) := by simp [hc1, go_sem]
    have q5 : w1.cell? ⟨w.heap.size, 5, none⟩ = some (.int .i64 y) := by simp [hc1, go_sem]
    have q6 : w1.cell? ⟨w.heap.size, 6, none⟩ = some (.int .i64 r) := by simp [hc1, go_sem]
    have q7 : w1.cell? ⟨w.heap.size, 7, none⟩ = some (.string s) := by simp [hc1, go_sem]
    go_wp2_with fail
    refine (c_ValidWarning n p f u x y r s _ hs).mono ?_
    rintro e w2 ⟨rfl, hb2⟩
    have hz2 := hb2.size
    have hc2 := (bcell hb2).1
    have t0 : w2.cell? ⟨w.heap.size, 0, none⟩ = some (.int .i64 n) := (hc2 _ _ (by omega)).trans q0
    have t1 : w2.cell? ⟨w.heap.size, 1, none⟩ = some (.int .i64 p) := (hc2 _ _ (by omega)).trans q1
    have t2 : w2.cell? ⟨w.heap.size, 2, none⟩ = some (.int .i64 f) := (hc2 _ _ (by omega)).trans q2
    have t3 : w2.cell? ⟨w.heap.size, 3, none⟩ = some (.int .i64 u) := (hc2 _ _ (by omega)).trans q3
    have t4 : w2.cell? ⟨w.heap.size, 4, none⟩ = some (.int .i64 x) := (hc2 _ _ (by omega)).trans q4
    have t5 : w2.cell? ⟨w.heap.size, 5, none⟩ = some (.int .i64 y) := (hc2 _ _ (by omega)).trans q5
    have t6 : w2.cell? ⟨w.heap.size, 6, none⟩ = some (.int .i64 r) := (hc2 _ _ (by omega)).trans q6
    have t7 : w2.cell? ⟨w.heap.size, 7, none⟩ = some (.string s) := (hc2 _ _ (by omega)).trans q7
    have hB2 : Below w.heap.size w w2 := by (repeat' (first | (with_reducible exact Below.refl _ _) | (with_reducible refine Below.alloc ?_ ?_ _) | (with_reducible refine Below.drew ?_) | (with_reducible refine below_drewN ?_ _) | (with_reducible refine Below.setCell ?_ ?_ _) | (with_reducible refine below_via ‹_› ?_ ?_) | (with_reducible refine below_grow ?_ ?_ _ _) | omega | (simp; done) | (simp; omega)))
    clear hc1 hf1 q0 q1 q2 q3 q4 q5 q6 q7
    cases hw : warnB n p f u x y r s
    · have HR := hid (show adR xs ⟨n, p, f, u, x, y, r, s⟩ = [] ∧ adC xs ⟨n, p, f, u, x, y, r, s⟩ = 1 by
        have hw' : warnD ⟨n, p, f, u, x, y, r, s⟩ = false := hw
        simp [adR, adC, hw'])
      go_wp2
      go_ret2
      rw [HR.out.2]
      exact warnCode_none (by (repeat' (first | (with_reducible exact Below.refl _ _) | (with_reducible refine Below.alloc ?_ ?_ _) | (with_reducible refine Below.drew ?_) | (with_reducible refine below_drewN ?_ _) | (with_reducible refine Below.setCell ?_ ?_ _) | (with_reducible refine below_via ‹_› ?_ ?_) | (with_reducible refine below_grow ?_ ?_ _ _) | omega | (simp; done) | (simp; omega)))) HR.out.1
    · have HW := hid hw
      have HN32 := hid (show xs.length ≤ 32 by have := hq; simp only [warnsB, Bool.and_eq_true, decide_eq_true_eq] at this; omega)
      clear hw hb1 hb2 hc2
      have h2 := h.at hB2
      go_wp2_with fail
      refine (c_warningOf _ xs n _ (by first | (with_reducible assumption) | (with_reducible apply SlO.at; (with_reducible assumption); (repeat' (first | (with_reducible exact Below.refl _ _) | (with_reducible refine Below.alloc ?_ ?_ _) | (with_reducible refine Below.drew ?_) | (with_reducible refine below_drewN ?_ _) | (with_reducible refine Below.setCell ?_ ?_ _) | (with_reducible refine below_via ‹_› ?_ ?_) | (with_reducible refine below_grow ?_ ?_ _ _) | omega | (simp; done) | (simp; omega))); done) | (with_reducible apply SlA.at; (with_reducible assumption); (repeat' (first | (with_reducible exact Below.refl _ _) | (with_reducible refine Below.alloc ?_ ?_ _) | (with_reducible refine Below.drew ?_) | (with_reducible refine below_drewN ?_ _) | (with_reducible refine Below.setCell ?_ ?_ _) | (with_reducible refine below_via ‹_› ?_ ?_) | (with_reducible refine below_grow ?_ ?_ _ _) | omega | (simp; done) | (simp; omega))); done))).mono ?_
      rintro e w3 ⟨rfl, hb3⟩
      have hz3 := hb3.size
      have hB3 : Below w.heap.size w w3 := hB2.trans (hb3.mono hB2.size)
      have h3 := h.at hB3
      have s0 := below_cell hb3 (by omega) t0
      have s1 := below_cell hb3 (by omega) t1
      have s2 := below_cell hb3 (by omega) t2
      have s3 := below_cell hb3 (by omega) t3
      have s4 := below_cell hb3 (by omega) t4
      have s5 := below_cell hb3 (by omega) t5
      have s6 := below_cell hb3 (by omega) t6
      have s7 := below_cell hb3 (by omega) t7
      have hbw : w.heap.size < w3.heap.size := by omega
      clear t0 t1 t2 t3 t4 t5 t6 t7 hb3 hB2 h2 hz2 hz1
      have hw' : warnD ⟨n, p, f, u, x, y, r, s⟩ = true := HW.out
      have HWW := hid hw'
      clear hw'
      cases hh : hitN xs n
      rotate_left
      · have HE := hid hh
        have HR := hid (show adR xs ⟨n, p, f, u, x, y, r, s⟩ = [] ∧ adC xs ⟨n, p, f, u, x, y, r, s⟩ = 4 by simp [adR, adC, HQ.out, HWW.out, HE.out])
        go_wp2
        go_ret2
        rw [HR.out.2]
        exact warnCode_none (by (repeat' (first | (with_reducible exact Below.refl _ _) | (with_reducible refine Below.alloc ?_ ?_ _) | (with_reducible refine Below.drew ?_) | (with_reducible refine below_drewN ?_ _) | (with_reducible refine Below.setCell ?_ ?_ _) | (with_reducible refine below_via ‹_› ?_ ?_) | (with_reducible refine below_grow ?_ ?_ _ _) | omega | (simp; done) | (simp; omega)))) HR.out.1
      have HE := hid hh
      obtain ⟨ad, cap, b, off, rfl, hm, -, -⟩ := h3.uni
      cases h32 : (xs.length : Int) == 32
      rotate_left
      · have HF := hid h32
        have HR := hid (show adR xs ⟨n, p, f, u, x, y, r, s⟩ = [] ∧ adC xs ⟨n, p, f, u, x, y, r, s⟩ = 5 by simp [adR, adC, HQ.out, HWW.out, HE.out, HF.out])
        go_wp2
        go_ret2
        rw [HR.out.2]
        exact warnCode_none (by (repeat' (first | (with_reducible exact Below.refl _ _) | (with_reducible refine Below.alloc ?_ ?_ _) | (with_reducible refine Below.drew ?_) | (with_reducible refine below_drewN ?_ _) | (with_reducible refine Below.setCell ?_ ?_ _) | (with_reducible refine below_via ‹_› ?_ ?_) | (with_reducible refine below_grow ?_ ?_ _ _) | omega | (simp; done) | (simp; omega)))) HR.out.1
      have HF := hid h32
      have HR := hid (show adR xs ⟨n, p, f, u, x, y, r, s⟩ = xs.take (lowN n xs) ++ [⟨n, p, f, u, x, y, r, s⟩] ++ xs.drop (lowN n xs) ∧ adC xs ⟨n, p, f, u, x, y, r, s⟩ = 0 by simp [adR, adC, HQ.out, HWW.out, HE.out, HF.out])
      have hle := lowN_le n xs
      have hxl : xs.length ≤ 1048576 := by have := HN32.out; omega
      obtain ⟨i, hi⟩ : ∃ i, i = lowN n xs := ⟨_, rfl⟩
      rw [← hi] at hle HR ⊢
      clear hi
      have k0 : ∀ w', Since w3 w' → w'.cell? ⟨w.heap.size, 0, none⟩ = some (.int .i64 n) := fun w' h => below_cell h.out hbw s0
      have k1 : ∀ w', Since w3 w' → w'.cell? ⟨w.heap.size, 1, none⟩ = some (.int .i64 p) := fun w' h => below_cell h.out hbw s1
      have k2 : ∀ w', Since w3 w' → w'.cell? ⟨w.heap.size, 2, none⟩ = some (.int .i64 f) := fun w' h => below_cell h.out hbw s2
      have k3 : ∀ w', Since w3 w' → w'.cell? ⟨w.heap.size, 3, none⟩ = some (.int .i64 u) := fun w' h => below_cell h.out hbw s3
      have k4 : ∀ w', Since w3 w' → w'.cell? ⟨w.heap.size, 4, none⟩ = some (.int .i64 x) := fun w' h => below_cell h.out hbw s4
      have k5 : ∀ w', Since w3 w' → w'.cell? ⟨w.heap.size, 5, none⟩ = some (.int .i64 y) := fun w' h => below_cell h.out hbw s5
      have k6 : ∀ w', Since w3 w' → w'.cell? ⟨w.heap.size, 6, none⟩ = some (.int .i64 r) := fun w' h => below_cell h.out hbw s6
      have k7 : ∀ w', Since w3 w' → w'.cell? ⟨w.heap.size, 7, none⟩ = some (.string s) := fun w' h => below_cell h.out hbw s7
      go_wp2_with fail
      go_region_held3 (fun w' => Since w3 w') ((refine since_of ?_; (repeat' (first | (with_reducible exact Below.refl _ _) | (with_reducible refine Below.alloc ?_ ?_ _) | (with_reducible refine Below.drew ?_) | (with_reducible refine below_drewN ?_ _) | (with_reducible refine Below.setCell ?_ ?_ _) | (with_reducible refine below_via ‹_› ?_ ?_) | (with_reducible refine below_grow ?_ ?_ _ _) | omega | (simp; done) | (simp; omega))))) (first
        | (go_at_call 36; refine (c_clone_warning _ xs _ (by first | (with_reducible assumption) | (with_reducible apply SlO.at; (with_reducible assumption); (repeat' (first | (with_reducible exact Below.refl _ _) | (with_reducible refine Below.alloc ?_ ?_ _) | (with_reducible refine Below.drew ?_) | (with_reducible refine below_drewN ?_ _) | (with_reducible refine Below.setCell ?_ ?_ _) | (with_reducible refine below_via ‹_› ?_ ?_) | (with_reducible refine below_grow ?_ ?_ _ _) | omega | (simp; done) | (simp; omega))); done) | (with_reducible apply SlA.at; (with_reducible assumption); (repeat' (first | (with_reducible exact Below.refl _ _) | (with_reducible refine Below.alloc ?_ ?_ _) | (with_reducible refine Below.drew ?_) | (with_reducible refine below_drewN ?_ _) | (with_reducible refine Below.setCell ?_ ?_ _) | (with_reducible refine below_via ‹_› ?_ ?_) | (with_reducible refine below_grow ?_ ?_ _ _) | omega | (simp; done) | (simp; omega))); done)) hxl).mono ?_; rintro e w4 ⟨rfl, hb4, hown4⟩; have hz4 := hb4.size; (try simp at hz4); have hl4 := (own_cellsW hown4 rfl).2.1; (try simp at hl4))
        | (go_at_call 35; refine (c_insert _ _ i xs ⟨n, p, f, u, x, y, r, s⟩ _ hle (by first | omega | (simp; done) | (simp; omega) | fail) (by first | exact hown4 | (simpa using hown4) | exact own_belowW hown4 (by (repeat' (first | (with_reducible exact Below.refl _ _) | (with_reducible refine Below.alloc ?_ ?_ _) | (with_reducible refine Below.drew ?_) | (with_reducible refine below_drewN ?_ _) | (with_reducible refine Below.setCell ?_ ?_ _) | (with_reducible refine below_via ‹_› ?_ ?_) | (with_reducible refine below_grow ?_ ?_ _ _) | omega | (simp; done) | (simp; omega)))) (Nat.le_refl _) | fail) (by first | omega | (simp; done) | (simp; omega) | fail) (by first | (apply cells8 <;> simp [*, go_sem]; done) | (apply cells8 <;> (refine (hb4.cell (by simp)).trans ?_; simp [*, go_sem]); done) | fail) hxl).mono ?_; rintro e w5 ⟨u5, rfl, hb5, hS5⟩; have hz5 := hb5.size; (try simp at hz5)))
      all_goals
        clear k0 k1 k2 k3 k4 k5 k6 k7 s0 s1 s2 s3 s4 s5 s6 s7 h3
        go_wp2_with fail
        go_ret2
        rw [HR.out.1, HR.out.2]
        refine ⟨_, rfl, ?_, ?_⟩
        · (repeat' (first | (with_reducible exact Below.refl _ _) | (with_reducible refine Below.alloc ?_ ?_ _) | (with_reducible refine Below.drew ?_) | (with_reducible refine below_drewN ?_ _) | (with_reducible refine Below.setCell ?_ ?_ _) | (with_reducible refine below_via ‹_› ?_ ?_) | (with_reducible refine below_grow ?_ ?_ _ _) | omega | (simp; done) | (simp; omega)))
        · exact hS5.mono (by first | omega | (simp; omega))
end Go.Proofs.Ytajlllpjgeoliaa
