/- The reference's and the program's warning put into a list. -/
import Derived.Test.YtajlllpjgeoliaaWarnA
import Derived.Test.YtajlllpjgeoliaaKept
import Derived.Deep.RegionLaw
import Derived.Lib.SliceRun
import Derived.Laws.IdiomCopy
namespace Go.Proofs.Ytajlllpjgeoliaa
open Go.RowKit Go.Sort
set_option linter.unusedVariables false
set_option maxRecDepth 100000

theorem one_encWarning (y : WarningD) : ∀ u ∈ encWarning y, u.oneCell' = true := by intro u hu; simp [encWarning] at hu; rcases hu with rfl | rfl | rfl | rfl | rfl | rfl | rfl | rfl <;> rfl
theorem sla_take {α : Type} {w : World} {lo n cap : Nat} {ad : Option Addr} {enc : α → List Value} {xs : List α} (h : SlA w lo n enc (.slice ad xs.length cap) xs) {k : Nat} (hk : k ≤ xs.length) : SlA w lo n enc (.slice ad k cap) (xs.take k) := by
  rcases h with ⟨a, c, e, rfl, hc⟩ | ⟨b, off, c, e, hp, hc, hm, hlo, hb, hx⟩
  · simp at e hk
    obtain ⟨rfl, rfl⟩ := e
    subst hk
    exact .inl ⟨_, _, rfl, by simp, hc⟩
  · simp at e
    obtain ⟨rfl, rfl⟩ := e
    by_cases h0 : k = 0
    · subst h0; exact .inl ⟨_, _, rfl, by simp, hm⟩
    · have hl : (xs.take k).length = k := by simp; omega
      refine .inr ⟨b, off, cap, by rw [hl], by omega, by omega, hm, hlo, hb, fun i hi j hj => ?_⟩
      rw [List.getElem_take]; exact hx i (by omega) j hj
theorem sla_drop {α : Type} {w : World} {lo n cap b off : Nat} {enc : α → List Value} {xs : List α} (h : SlA w lo n enc (.slice (some ⟨b, off, none⟩) xs.length cap) xs) {k : Nat} (hk : k ≤ xs.length) {A : Option Addr} (hA : k < cap → A = some ⟨b, off + k * n, none⟩) : SlA w lo n enc (.slice A (xs.length - k) (cap - k)) (xs.drop k) := by
  rcases h with ⟨a, c, e, rfl, hc⟩ | ⟨b', off', c, e, hp, hc, hm, hlo, hb, hx⟩
  · simp at e
    obtain ⟨-, rfl⟩ := e
    exact .inl ⟨A, cap - k, by simp, by simp, by omega⟩
  · simp at e
    obtain ⟨⟨rfl, rfl⟩, rfl⟩ := e
    by_cases h0 : k = xs.length
    · subst h0; exact .inl ⟨A, cap - xs.length, by simp, by simp, by omega⟩
    · have hl : (xs.drop k).length = xs.length - k := by simp
      refine .inr ⟨b, off + k * n, cap - k, by rw [hl, hA (by omega)], by omega, by omega, by omega, hlo, hb, fun i hi j hj => ?_⟩
      rw [List.getElem_drop, ← hx (k + i) (by omega) j hj, Nat.add_mul]
      congr 2; omega
theorem own_at {b o m c b' : Nat} (h : (Value.slice (some ⟨b, o, none⟩) m c).ownBlock = some b') : b' = b := by simp [Value.ownBlock] at h; omega
theorem own_ite {q : Prop} [Decidable q] {b o1 o2 m c b' : Nat} (h : (Value.slice (if q then some ⟨b, o1, none⟩ else some ⟨b, o2, none⟩) m c).ownBlock = some b') : b' = b := by
  split at h <;> simp [Value.ownBlock] at h <;> omega
def WarnCode (xs : List WarningD) (code : Int) (w : World) (e : Ending) (w' : World) : Prop := ∃ u, e = .returned (.tuple #[u, .int .i64 code]) ∧ Below w.heap.size w w' ∧ SlO w' w.heap.size 8 encWarning u xs
theorem warnCode_none {w w' : World} (h : Below w.heap.size w w') {code : Int} {xs : List WarningD} (hc : xs = []) : WarnCode xs code w (.returned (.tuple #[.slice none 0 0, .int .i64 code])) w' :=
  ⟨_, rfl, h, .inl ⟨none, 0, rfl, hc, Nat.zero_le _⟩, fun b hb => by simp [Value.ownBlock] at hb⟩
set_option maxHeartbeats 2000000 in
theorem c_spec_AddWarning (v : Value) (xs : List WarningD) (n p f u x y r : Int) (s : ByteArray) (w : World) (h : SlA w 0 8 encWarning v xs) (hok : ∀ x ∈ xs, okWarning x) (hs : s.size ≤ maxLen) :
    Calls Try.prog 8 #[v, .agg #[.int .i64 n, .int .i64 p, .int .i64 f, .int .i64 u, .int .i64 x, .int .i64 y, .int .i64 r, .string s]] w (WarnCode (adR xs ⟨n, p, f, u, x, y, r, s⟩) (adC xs ⟨n, p, f, u, x, y, r, s⟩) w) := by
  cases hq : warnsB xs
  · have HR := hid (show adR xs ⟨n, p, f, u, x, y, r, s⟩ = [] ∧ adC xs ⟨n, p, f, u, x, y, r, s⟩ = 1 by simp [adR, adC, hq])
    go_enter Try.func8, Try.ntmps8
    go_wp2_with (first | (go_at_call 29; refine (c_l22Ok _ _ _ (by first | (with_reducible assumption) | (with_reducible apply SlO.at; (with_reducible assumption); (repeat' (first | (with_reducible exact Below.refl _ _) | (with_reducible refine Below.alloc ?_ ?_ _) | (with_reducible refine Below.drew ?_) | (with_reducible refine below_drewN ?_ _) | (with_reducible refine Below.setCell ?_ ?_ _) | (with_reducible refine below_via ‹_› ?_ ?_) | (with_reducible refine below_grow ?_ ?_ _ _) | omega | (simp; done) | (simp; omega))); done) | (with_reducible apply SlA.at; (with_reducible assumption); (repeat' (first | (with_reducible exact Below.refl _ _) | (with_reducible refine Below.alloc ?_ ?_ _) | (with_reducible refine Below.drew ?_) | (with_reducible refine below_drewN ?_ _) | (with_reducible refine Below.setCell ?_ ?_ _) | (with_reducible refine below_via ‹_› ?_ ?_) | (with_reducible refine below_grow ?_ ?_ _ _) | omega | (simp; done) | (simp; omega))); done)) (by assumption)).mono ?_; rintro e w1 ⟨rfl, hb⟩; obtain ⟨hc, hf⟩ := bcell hb; have hz := hb.size; (try simp at hz); (try have hz0 : ∀ b, b < w.heap.size → b < w1.heap.size := fun b h => by omega); (try have hz1 : w.heap.size < w1.heap.size := by omega); (try have hz2 : w.heap.size + 1 < w1.heap.size := by omega); (try have hz3 : w.heap.size + 2 < w1.heap.size := by omega)))
    go_ret2
    rw [HR.out.2]
    exact warnCode_none (by (repeat' (first | (with_reducible exact Below.refl _ _) | (with_reducible refine Below.alloc ?_ ?_ _) | (with_reducible refine Below.drew ?_) | (with_reducible refine below_drewN ?_ _) | (with_reducible refine Below.setCell ?_ ?_ _) | (with_reducible refine below_via ‹_› ?_ ?_) | (with_reducible refine below_grow ?_ ?_ _ _) | omega | (simp; done) | (simp; omega)))) HR.out.1
  · have HQ := hid hq
    go_enter Try.func8, Try.ntmps8
    go_wp2_with fail
    refine (c_l22Ok v xs _ (by first | (with_reducible assumption) | (with_reducible apply SlO.at; (with_reducible assumption); (repeat' (first | (with_reducible exact Below.refl _ _) | (with_reducible refine Below.alloc ?_ ?_ _) | (with_reducible refine Below.drew ?_) | (with_reducible refine below_drewN ?_ _) | (with_reducible refine Below.setCell ?_ ?_ _) | (with_reducible refine below_via ‹_› ?_ ?_) | (with_reducible refine below_grow ?_ ?_ _ _) | omega | (simp; done) | (simp; omega))); done) | (with_reducible apply SlA.at; (with_reducible assumption); (repeat' (first | (with_reducible exact Below.refl _ _) | (with_reducible refine Below.alloc ?_ ?_ _) | (with_reducible refine Below.drew ?_) | (with_reducible refine below_drewN ?_ _) | (with_reducible refine Below.setCell ?_ ?_ _) | (with_reducible refine below_via ‹_› ?_ ?_) | (with_reducible refine below_grow ?_ ?_ _ _) | omega | (simp; done) | (simp; omega))); done)) hok).mono ?_
    rintro e w1 ⟨rfl, hb1⟩
    obtain ⟨hc1, hf1⟩ := bcell hb1; have hz1 := hb1.size; (try simp at hz1); (try have hy : w.heap.size < w1.heap.size := by omega); (try have hy : w.heap.size ≤ w1.heap.size := by omega); (try have hy : w.heap.size + 1 < w1.heap.size := by omega); (try have hy : w.heap.size + 1 ≤ w1.heap.size := by omega); (try have hy : w.heap.size + 2 < w1.heap.size := by omega); (try have hy : w.heap.size + 2 ≤ w1.heap.size := by omega)
    have q0 : w1.cell? ⟨w.heap.size, 0, none⟩ = some (.int .i64 n) := by simp [hc1, go_sem]
    have q1 : w1.cell? ⟨w.heap.size, 1, none⟩ = some (.int .i64 p) := by simp [hc1, go_sem]
    have q2 : w1.cell? ⟨w.heap.size, 2, none⟩ = some (.int .i64 f) := by simp [hc1, go_sem]
    have q3 : w1.cell? ⟨w.heap.size, 3, none⟩ = some (.int .i64 u) := by simp [hc1, go_sem]
    have q4 : w1.cell? ⟨w.heap.size, 4, none⟩ = some (.int .i64 x) := by simp [hc1, go_sem]
    have q5 : w1.cell? ⟨w.heap.size, 5, none⟩ = some (.int .i64 y) := by simp [hc1, go_sem]
    have q6 : w1.cell? ⟨w.heap.size, 6, none⟩ = some (.int .i64 r) := by simp [hc1, go_sem]
    have q7 : w1.cell? ⟨w.heap.size, 7, none⟩ = some (.string s) := by simp [hc1, go_sem]
    go_wp2_with fail
    refine (c_l22One w.heap.size 0 n p f u x y r s _ (by omega) hs q0 q1 q2 q3 q4 q5 q6 q7).mono ?_
    rintro e w2 ⟨rfl, hb2⟩
    have hz2 := hb2.size
    have hc2 := (bcell hb2).1
    have t0 : w2.cell? ⟨w.heap.size, 0, none⟩ = some (.int .i64 n) := (hc2 _ _ (by omega)).trans q0
    have t1 : w2.cell? ⟨w.heap.size, 1, none⟩ = some (.int .i64 p) := (hc2 _ _ (by omega)).trans q1
    have t2 : w2.cell? ⟨w.heap.size, 2, none⟩ = some (.int .i64 f) := (hc2 _ _ (by omega)).trans q2
    have t3 : w2.cell? ⟨w.heap.size, 3, none⟩ = some (.int .i64 u) := (hc2 _ _ (by omega)).trans q3
    have t4 : w2.cell? ⟨w.heap.size, 4, none⟩ = some (.int .i64 x) := (hc2 _ _ (by omega)).trans q4
    have t5 : w2.cell? ⟨w.heap.size, 5, none⟩ = some (.int .i64 y) := (hc2 _ _ (by omega)).trans q5
    have t6 : w2.cell? ⟨w.heap.size, 6, none⟩ = some (.int .i64 r) := (hc2 _ _ (by omega)).trans q6
    have t7 : w2.cell? ⟨w.heap.size, 7, none⟩ = some (.string s) := (hc2 _ _ (by omega)).trans q7
    have hB2 : Below w.heap.size w w2 := by (repeat' (first | (with_reducible exact Below.refl _ _) | (with_reducible refine Below.alloc ?_ ?_ _) | (with_reducible refine Below.drew ?_) | (with_reducible refine below_drewN ?_ _) | (with_reducible refine Below.setCell ?_ ?_ _) | (with_reducible refine below_via ‹_› ?_ ?_) | (with_reducible refine below_grow ?_ ?_ _ _) | omega | (simp; done) | (simp; omega)))
    clear hc1 hf1 q0 q1 q2 q3 q4 q5 q6 q7
    cases hw : warnB n p f u x y r s
    · have HR := hid (show adR xs ⟨n, p, f, u, x, y, r, s⟩ = [] ∧ adC xs ⟨n, p, f, u, x, y, r, s⟩ = 1 by
        have hw' : warnD ⟨n, p, f, u, x, y, r, s⟩ = false := hw
        simp [adR, adC, hw'])
      go_wp2
      go_ret2
      rw [HR.out.2]
      exact warnCode_none (by (repeat' (first | (with_reducible exact Below.refl _ _) | (with_reducible refine Below.alloc ?_ ?_ _) | (with_reducible refine Below.drew ?_) | (with_reducible refine below_drewN ?_ _) | (with_reducible refine Below.setCell ?_ ?_ _) | (with_reducible refine below_via ‹_› ?_ ?_) | (with_reducible refine below_grow ?_ ?_ _ _) | omega | (simp; done) | (simp; omega)))) HR.out.1
    · have HW := hid hw
      have HN32 := hid (show xs.length ≤ 32 by have := hq; simp only [warnsB, Bool.and_eq_true, decide_eq_true_eq] at this; omega)
      clear hw hb1 hb2 hc2
      have h2 := h.at hB2
      obtain ⟨ad, cap, b, off, rfl, hm, had, hx⟩ := h2.uni
      go_wp2
      go_loopw [6] (fun i wr => ∃ k : Nat, k ≤ xs.length ∧ i = .int .i64 k ∧ lowN n xs = k + lowN n (xs.drop k) ∧ Below w2.heap.size w2 wr) (fun i _ => xs.length - (intOf i).toNat)
      case atStart => exact ⟨0, Nat.zero_le _, rfl, by simp, by (repeat' (first | (with_reducible exact Below.refl _ _) | (with_reducible refine Below.alloc ?_ ?_ _) | (with_reducible refine Below.drew ?_) | (with_reducible refine below_drewN ?_ _) | (with_reducible refine Below.setCell ?_ ?_ _) | (with_reducible refine below_via ‹_› ?_ ?_) | (with_reducible refine below_grow ?_ ?_ _ _) | omega | (simp; done) | (simp; omega)))⟩
      case round =>
        obtain ⟨k, hk, rfl, hn, hB⟩ := hrel
        have hzr := hB.size
        have s0 := (hB.cell (p := ⟨w.heap.size, 0, none⟩) (by simp only; omega)).trans t0
        by_cases hlt : k < xs.length
        · have hlI : (k : Int) < xs.length := by omega
          obtain ⟨rfl, hbb, -, hcc, hmc⟩ := had (by omega)
          have HN := hid (hn.trans (by rw [lowN_step n xs k hlt])); clear hn
          have g0 := (hB.cell (p := ⟨b, off + k * 8 + 0, none⟩) hbb).trans (hx k hlt 0 (by omega))
          simp only [encWarning, List.getD_cons_zero, Nat.add_zero] at g0
          have HX := hid (List.getElem?_eq_getElem hlt)
          have HXX := hid hx
          clear hx
          have r0 := cellr g0
          have r1 := cellr s0
          cases hd : decide (xs[k].fNumber < n)
          · have hql : ¬ xs[k].fNumber < n := of_decide_eq_false hd
            have HL := hid (show lowN n xs = k by rw [HN.out, if_neg hql]; simp)
            have HH := hid (show hitN xs n = (xs[k].fNumber == n) by rw [hitN, HL.out, HX.out])
            cases hh : (xs[k].fNumber == n)
            rotate_left
            · have HE := hid hh
              have HR := hid (show adR xs ⟨n, p, f, u, x, y, r, s⟩ = [] ∧ adC xs ⟨n, p, f, u, x, y, r, s⟩ = 4 by
                have hw' : warnD ⟨n, p, f, u, x, y, r, s⟩ = true := HW.out
                simp [adR, adC, HQ.out, hw', HH.out, HE.out])
              go_wp2
              (refine wp_region_quiet_below (by kernel_rfl) (by kernel_rfl) ?_; (repeat (first | go_big_quiet_step ((fail)) | quiet_step ((fail)))); refine wpQuiet_nil ?_; intro w1 hw'; have hb := below_of_regrown hw'; clear hw'; obtain ⟨hc, hf⟩ := bcell hb; have hz := hb.size; (try simp at hz); (try have hz0 : ∀ b, b < w.heap.size → b < w1.heap.size := fun b h => by omega); (try have hz1 : w.heap.size < w1.heap.size := by omega); (try have hz2 : w.heap.size + 1 < w1.heap.size := by omega); (try have hz3 : w.heap.size + 2 < w1.heap.size := by omega))
              have g0' := (hc _ _ (by omega)).trans g0
              have r0' := cellr g0'
              have s0' := (hc _ _ (by omega)).trans s0
              have r1' := cellr s0'
              go_wp2
              (refine wp_region_quiet_below (by kernel_rfl) (by kernel_rfl) ?_; (repeat (first | go_big_quiet_step ((fail)) | quiet_step ((fail)))); refine wpQuiet_nil ?_; intro w1 hw'; have hb := below_of_regrown hw'; clear hw'; obtain ⟨hc, hf⟩ := bcell hb; have hz := hb.size; (try simp at hz); (try have hz0 : ∀ b, b < w.heap.size → b < w1.heap.size := fun b h => by omega); (try have hz1 : w.heap.size < w1.heap.size := by omega); (try have hz2 : w.heap.size + 1 < w1.heap.size := by omega); (try have hz3 : w.heap.size + 2 < w1.heap.size := by omega))
              go_wp2
              go_ret2
              rw [HR.out.2]
              exact warnCode_none (by (repeat' (first | (with_reducible exact Below.refl _ _) | (with_reducible refine Below.alloc ?_ ?_ _) | (with_reducible refine Below.drew ?_) | (with_reducible refine below_drewN ?_ _) | (with_reducible refine Below.setCell ?_ ?_ _) | (with_reducible refine below_via ‹_› ?_ ?_) | (with_reducible refine below_grow ?_ ?_ _ _) | omega | (simp; done) | (simp; omega)))) HR.out.1
            have HE := hid hh
            cases h32 : (xs.length : Int) == 32
            rotate_left
            · have HF := hid h32
              have HR := hid (show adR xs ⟨n, p, f, u, x, y, r, s⟩ = [] ∧ adC xs ⟨n, p, f, u, x, y, r, s⟩ = 5 by
                have hw' : warnD ⟨n, p, f, u, x, y, r, s⟩ = true := HW.out
                simp [adR, adC, HQ.out, hw', HH.out, HE.out, HF.out])
              go_wp2
              (refine wp_region_quiet_below (by kernel_rfl) (by kernel_rfl) ?_; (repeat (first | go_big_quiet_step ((fail)) | quiet_step ((fail)))); refine wpQuiet_nil ?_; intro w1 hw'; have hb := below_of_regrown hw'; clear hw'; obtain ⟨hc, hf⟩ := bcell hb; have hz := hb.size; (try simp at hz); (try have hz0 : ∀ b, b < w.heap.size → b < w1.heap.size := fun b h => by omega); (try have hz1 : w.heap.size < w1.heap.size := by omega); (try have hz2 : w.heap.size + 1 < w1.heap.size := by omega); (try have hz3 : w.heap.size + 2 < w1.heap.size := by omega))
              have g0' := (hc _ _ (by omega)).trans g0
              have r0' := cellr g0'
              have s0' := (hc _ _ (by omega)).trans s0
              have r1' := cellr s0'
              go_wp2
              (refine wp_region_quiet_below (by kernel_rfl) (by kernel_rfl) ?_; (repeat (first | go_big_quiet_step ((fail)) | quiet_step ((fail)))); refine wpQuiet_nil ?_; intro w1 hw'; have hb := below_of_regrown hw'; clear hw'; obtain ⟨hc, hf⟩ := bcell hb; have hz := hb.size; (try simp at hz); (try have hz0 : ∀ b, b < w.heap.size → b < w1.heap.size := fun b h => by omega); (try have hz1 : w.heap.size < w1.heap.size := by omega); (try have hz2 : w.heap.size + 1 < w1.heap.size := by omega); (try have hz3 : w.heap.size + 2 < w1.heap.size := by omega))
              go_wp2
              go_ret2
              rw [HR.out.2]
              exact warnCode_none (by (repeat' (first | (with_reducible exact Below.refl _ _) | (with_reducible refine Below.alloc ?_ ?_ _) | (with_reducible refine Below.drew ?_) | (with_reducible refine below_drewN ?_ _) | (with_reducible refine Below.setCell ?_ ?_ _) | (with_reducible refine below_via ‹_› ?_ ?_) | (with_reducible refine below_grow ?_ ?_ _ _) | omega | (simp; done) | (simp; omega)))) HR.out.1
            have HF := hid h32
            have hn32 : xs.length ≤ 32 := HN32.out
            have HR := hid (show adR xs ⟨n, p, f, u, x, y, r, s⟩ = xs.take k ++ [⟨n, p, f, u, x, y, r, s⟩] ++ xs.drop k ∧ adC xs ⟨n, p, f, u, x, y, r, s⟩ = 0 by
              have hw' : warnD ⟨n, p, f, u, x, y, r, s⟩ = true := HW.out
              simp [adR, adC, HQ.out, hw', HH.out, HL.out, HE.out, HF.out])
            go_wp2
            (refine wp_region_quiet_below (by kernel_rfl) (by kernel_rfl) ?_; (repeat (first | go_big_quiet_step ((fail)) | quiet_step ((fail)))); refine wpQuiet_nil ?_; intro w1 hw'; have hb := below_of_regrown hw'; clear hw'; obtain ⟨hc, hf⟩ := bcell hb; have hz := hb.size; (try simp at hz); (try have hz0 : ∀ b, b < w.heap.size → b < w1.heap.size := fun b h => by omega); (try have hz1 : w.heap.size < w1.heap.size := by omega); (try have hz2 : w.heap.size + 1 < w1.heap.size := by omega); (try have hz3 : w.heap.size + 2 < w1.heap.size := by omega))
            have g0' := (hc _ _ (by omega)).trans g0
            have r0' := cellr g0'
            have s0' := (hc _ _ (by omega)).trans s0
            have r1' := cellr s0'
            go_wp2
            (refine wp_region_quiet_below (by kernel_rfl) (by kernel_rfl) ?_; (repeat (first | go_big_quiet_step ((fail)) | quiet_step ((fail)))); refine wpQuiet_nil ?_; intro w1 hw'; have hb := below_of_regrown hw'; clear hw'; obtain ⟨hc, hf⟩ := bcell hb; have hz := hb.size; (try simp at hz); (try have hz0 : ∀ b, b < w.heap.size → b < w1.heap.size := fun b h => by omega); (try have hz1 : w.heap.size < w1.heap.size := by omega); (try have hz2 : w.heap.size + 1 < w1.heap.size := by omega); (try have hz3 : w.heap.size + 2 < w1.heap.size := by omega))
            have hz3 := hb.size
            have hBn : Below w2.heap.size w2 w1 := by (repeat' (first | (with_reducible exact Below.refl _ _) | (with_reducible refine Below.alloc ?_ ?_ _) | (with_reducible refine Below.drew ?_) | (with_reducible refine below_drewN ?_ _) | (with_reducible refine Below.setCell ?_ ?_ _) | (with_reducible refine below_via ‹_› ?_ ?_) | (with_reducible refine below_grow ?_ ?_ _ _) | omega | (simp; done) | (simp; omega)))
            have hzn := hBn.size
            have hBW : Below w.heap.size w (w1.alloc (.cells #[] 35)) := by (repeat' (first | (with_reducible exact Below.refl _ _) | (with_reducible refine Below.alloc ?_ ?_ _) | (with_reducible refine Below.drew ?_) | (with_reducible refine below_drewN ?_ _) | (with_reducible refine Below.setCell ?_ ?_ _) | (with_reducible refine below_via ‹_› ?_ ?_) | (with_reducible refine below_grow ?_ ?_ _ _) | omega | (simp; done) | (simp; omega)))
            have hBA : Below w1.heap.size w1 (w1.alloc (.cells #[] 35)) := by (repeat' (first | (with_reducible exact Below.refl _ _) | (with_reducible refine Below.alloc ?_ ?_ _) | (with_reducible refine Below.drew ?_) | (with_reducible refine below_drewN ?_ _) | (with_reducible refine Below.setCell ?_ ?_ _) | (with_reducible refine below_via ‹_› ?_ ?_) | (with_reducible refine below_grow ?_ ?_ _ _) | omega | (simp; done) | (simp; omega)))
            have hzA : (w1.alloc (.cells #[] 35)).heap.size = w1.heap.size + 1 := by simp
            have e0 := below_cell hBA (by omega) (below_cell hBn (by omega) t0)
            have e1 := below_cell hBA (by omega) (below_cell hBn (by omega) t1)
            have e2 := below_cell hBA (by omega) (below_cell hBn (by omega) t2)
            have e3 := below_cell hBA (by omega) (below_cell hBn (by omega) t3)
            have e4 := below_cell hBA (by omega) (below_cell hBn (by omega) t4)
            have e5 := below_cell hBA (by omega) (below_cell hBn (by omega) t5)
            have e6 := below_cell hBA (by omega) (below_cell hBn (by omega) t6)
            have e7 := below_cell hBA (by omega) (below_cell hBn (by omega) t7)
            have hSA : SlA (w1.alloc (.cells #[] 35)) 0 8 encWarning (.slice (some ⟨b, off, none⟩) xs.length cap) xs := (h2.at hBn).at hBA
            have hbn : b < w1.heap.size := by omega
            have A1 := hid (Acc.lit (α := WarningD) (W := (w1.alloc (.cells #[] 35))) (w0 := w1) (e := 35) (Below.refl _ _) 8 encWarning)
            have hT := hid (sla_take hSA hk)
            have hU := hid hSA
            clear hSA t0 t1 t2 t3 t4 t5 t6 t7 h2 h hc hf hb had
            obtain ⟨i0, hi0, iz0, iz1, iz2⟩ := info_parts info_Warning
            go_wp2_with (first | (at_builtin; refine wpList_pushAll rfl (.tmp 48) (.tmp 51) 29 rfl i0 _ 72 Try.underlying29 hi0 iz0 iz1 iz2 rfl (by decide) (fun _ => rfl) rfl A1.out rfl hT.out one_encWarning (by simp only [List.length_append, List.length_nil, List.length_take, List.length_drop, List.length_cons]; (try unfold maxLen); omega) (by simp only [List.length_append, List.length_nil, List.length_take, List.length_drop, List.length_cons]; (try unfold maxLen); omega) ?_; intro v3 w3 hA3; have m0 := hA3.cellAt (by rw [hzA]; omega) (by omega) e0; have m1 := hA3.cellAt (by rw [hzA]; omega) (by omega) e1; have m2 := hA3.cellAt (by rw [hzA]; omega) (by omega) e2; have m3 := hA3.cellAt (by rw [hzA]; omega) (by omega) e3; have m4 := hA3.cellAt (by rw [hzA]; omega) (by omega) e4; have m5 := hA3.cellAt (by rw [hzA]; omega) (by omega) e5; have m6 := hA3.cellAt (by rw [hzA]; omega) (by omega) e6; have m7 := hA3.cellAt (by rw [hzA]; omega) (by omega) e7; have HA3 := hid hA3; clear hA3) | (at_builtin; (refine wpList_push (v := v3) rfl (.tmp 53) (.tmp 55) 29 rfl i0 _ 72 Try.underlying29 hi0 iz0 iz1 iz2 rfl (by decide) (fun _ => rfl) (⟨n, p, f, u, x, y, r, s⟩ : WarningD) rfl HA3.out (Below.refl _ _) 35 1 rfl (one_encWarning _) (by simp only [List.length_append, List.length_nil, List.length_take, List.length_drop, List.length_cons]; (try unfold maxLen); omega) (by simp only [List.length_append, List.length_nil, List.length_take, List.length_drop, List.length_cons]; (try unfold maxLen); omega) ?_); intro v4 w4 hA4; have HA4 := hid hA4; clear hA4) | (at_builtin; (refine wpList_pushAll (v := v4) rfl (.tmp 57) (.tmp 60) 29 rfl i0 _ 72 Try.underlying29 hi0 iz0 iz1 iz2 rfl (by decide) (fun _ => rfl) rfl HA4.out rfl (HA4.out.sl (sla_drop hU.out hk (fun hkc => by first | rfl | (rw [if_neg (by omega)]) | (simp; omega))) (fun b' hb' => by have hbe : b' = b := (by first | exact own_at hb' | exact own_ite hb'); omega)) one_encWarning (by simp only [List.length_append, List.length_nil, List.length_take, List.length_drop, List.length_cons]; (try unfold maxLen); omega) (by simp only [List.length_append, List.length_nil, List.length_take, List.length_drop, List.length_cons]; (try unfold maxLen); omega) ?_); intro v5 w5 hA5; have HA5 := hid hA5; clear hA5))
            all_goals
              go_ret2
              have hD := HA5.out.done (fun _ => rfl) hBW (by omega)
              rw [HR.out.1, HR.out.2]
              exact ⟨_, rfl, hD.1, by simpa using hD.2⟩
          · have hql : xs[k].fNumber < n := of_decide_eq_true hd
            have HL := hid hql
            go_wp2
            (refine wp_region_quiet_below (by kernel_rfl) (by kernel_rfl) ?_; (repeat (first | go_big_quiet_step ((fail)) | quiet_step ((fail)))); refine wpQuiet_nil ?_; intro w1 hw'; have hb := below_of_regrown hw'; clear hw'; obtain ⟨hc, hf⟩ := bcell hb; have hz := hb.size; (try simp at hz); (try have hz0 : ∀ b, b < w.heap.size → b < w1.heap.size := fun b h => by omega); (try have hz1 : w.heap.size < w1.heap.size := by omega); (try have hz2 : w.heap.size + 1 < w1.heap.size := by omega); (try have hz3 : w.heap.size + 2 < w1.heap.size := by omega))
            go_wp2
            go_roundw
            case rel => exact ⟨k + 1, by omega, by go_num, by rw [HN.out, if_pos HL.out]; omega, by (repeat' (first | (with_reducible exact Below.refl _ _) | (with_reducible refine Below.alloc ?_ ?_ _) | (with_reducible refine Below.drew ?_) | (with_reducible refine below_drewN ?_ _) | (with_reducible refine Below.setCell ?_ ?_ _) | (with_reducible refine below_via ‹_› ?_ ?_) | (with_reducible refine below_grow ?_ ?_ _ _) | omega | (simp; done) | (simp; omega)))⟩
            case measure => simp [intOf]; omega
        · have hlN : ¬ (k : Int) < xs.length := by omega
          have HL := hid (show lowN n xs = k by rw [hn, List.drop_eq_nil_of_le (by omega)]; simp [lowN]); clear hn
          have HH := hid (show hitN xs n = false by rw [hitN, HL.out, List.getElem?_eq_none (by omega)])
          clear hx
          by_cases hp0 : 0 < xs.length
          · obtain ⟨rfl, hbb, -, hcc, hmc⟩ := had hp0
            cases h32 : (xs.length : Int) == 32
            rotate_left
            · have HF := hid h32
              have HR := hid (show adR xs ⟨n, p, f, u, x, y, r, s⟩ = [] ∧ adC xs ⟨n, p, f, u, x, y, r, s⟩ = 5 by
                have hw' : warnD ⟨n, p, f, u, x, y, r, s⟩ = true := HW.out
                simp [adR, adC, HQ.out, hw', HH.out, HF.out])
              go_wp2
              (refine wp_region_quiet_below (by kernel_rfl) (by kernel_rfl) ?_; (repeat (first | go_big_quiet_step ((fail)) | quiet_step ((fail)))); refine wpQuiet_nil ?_; intro w1 hw'; have hb := below_of_regrown hw'; clear hw'; obtain ⟨hc, hf⟩ := bcell hb; have hz := hb.size; (try simp at hz); (try have hz0 : ∀ b, b < w.heap.size → b < w1.heap.size := fun b h => by omega); (try have hz1 : w.heap.size < w1.heap.size := by omega); (try have hz2 : w.heap.size + 1 < w1.heap.size := by omega); (try have hz3 : w.heap.size + 2 < w1.heap.size := by omega))
              have s0' := (hc _ _ (by omega)).trans s0
              have r1' := cellr s0'
              go_wp2
              (refine wp_region_quiet_below (by kernel_rfl) (by kernel_rfl) ?_; (repeat (first | go_big_quiet_step ((fail)) | quiet_step ((fail)))); refine wpQuiet_nil ?_; intro w1 hw'; have hb := below_of_regrown hw'; clear hw'; obtain ⟨hc, hf⟩ := bcell hb; have hz := hb.size; (try simp at hz); (try have hz0 : ∀ b, b < w.heap.size → b < w1.heap.size := fun b h => by omega); (try have hz1 : w.heap.size < w1.heap.size := by omega); (try have hz2 : w.heap.size + 1 < w1.heap.size := by omega); (try have hz3 : w.heap.size + 2 < w1.heap.size := by omega))
              go_wp2
              go_ret2
              rw [HR.out.2]
              exact warnCode_none (by (repeat' (first | (with_reducible exact Below.refl _ _) | (with_reducible refine Below.alloc ?_ ?_ _) | (with_reducible refine Below.drew ?_) | (with_reducible refine below_drewN ?_ _) | (with_reducible refine Below.setCell ?_ ?_ _) | (with_reducible refine below_via ‹_› ?_ ?_) | (with_reducible refine below_grow ?_ ?_ _ _) | omega | (simp; done) | (simp; omega)))) HR.out.1
            have HF := hid h32
            have hn32 : xs.length ≤ 32 := HN32.out
            have HR := hid (show adR xs ⟨n, p, f, u, x, y, r, s⟩ = xs.take k ++ [⟨n, p, f, u, x, y, r, s⟩] ++ xs.drop k ∧ adC xs ⟨n, p, f, u, x, y, r, s⟩ = 0 by
              have hw' : warnD ⟨n, p, f, u, x, y, r, s⟩ = true := HW.out
              simp [adR, adC, HQ.out, hw', HH.out, HL.out, HF.out])
            go_wp2
            (refine wp_region_quiet_below (by kernel_rfl) (by kernel_rfl) ?_; (repeat (first | go_big_quiet_step ((fail)) | quiet_step ((fail)))); refine wpQuiet_nil ?_; intro w1 hw'; have hb := below_of_regrown hw'; clear hw'; obtain ⟨hc, hf⟩ := bcell hb; have hz := hb.size; (try simp at hz); (try have hz0 : ∀ b, b < w.heap.size → b < w1.heap.size := fun b h => by omega); (try have hz1 : w.heap.size < w1.heap.size := by omega); (try have hz2 : w.heap.size + 1 < w1.heap.size := by omega); (try have hz3 : w.heap.size + 2 < w1.heap.size := by omega))
            have s0' := (hc _ _ (by omega)).trans s0
            have r1' := cellr s0'
            go_wp2
            (refine wp_region_quiet_below (by kernel_rfl) (by kernel_rfl) ?_; (repeat (first | go_big_quiet_step ((fail)) | quiet_step ((fail)))); refine wpQuiet_nil ?_; intro w1 hw'; have hb := below_of_regrown hw'; clear hw'; obtain ⟨hc, hf⟩ := bcell hb; have hz := hb.size; (try simp at hz); (try have hz0 : ∀ b, b < w.heap.size → b < w1.heap.size := fun b h => by omega); (try have hz1 : w.heap.size < w1.heap.size := by omega); (try have hz2 : w.heap.size + 1 < w1.heap.size := by omega); (try have hz3 : w.heap.size + 2 < w1.heap.size := by omega))
            have hz3 := hb.size
            have hBn : Below w2.heap.size w2 w1 := by (repeat' (first | (with_reducible exact Below.refl _ _) | (with_reducible refine Below.alloc ?_ ?_ _) | (with_reducible refine Below.drew ?_) | (with_reducible refine below_drewN ?_ _) | (with_reducible refine Below.setCell ?_ ?_ _) | (with_reducible refine below_via ‹_› ?_ ?_) | (with_reducible refine below_grow ?_ ?_ _ _) | omega | (simp; done) | (simp; omega)))
            have hzn := hBn.size
            have hBW : Below w.heap.size w (w1.alloc (.cells #[] 35)) := by (repeat' (first | (with_reducible exact Below.refl _ _) | (with_reducible refine Below.alloc ?_ ?_ _) | (with_reducible refine Below.drew ?_) | (with_reducible refine below_drewN ?_ _) | (with_reducible refine Below.setCell ?_ ?_ _) | (with_reducible refine below_via ‹_› ?_ ?_) | (with_reducible refine below_grow ?_ ?_ _ _) | omega | (simp; done) | (simp; omega)))
            have hBA : Below w1.heap.size w1 (w1.alloc (.cells #[] 35)) := by (repeat' (first | (with_reducible exact Below.refl _ _) | (with_reducible refine Below.alloc ?_ ?_ _) | (with_reducible refine Below.drew ?_) | (with_reducible refine below_drewN ?_ _) | (with_reducible refine Below.setCell ?_ ?_ _) | (with_reducible refine below_via ‹_› ?_ ?_) | (with_reducible refine below_grow ?_ ?_ _ _) | omega | (simp; done) | (simp; omega)))
            have hzA : (w1.alloc (.cells #[] 35)).heap.size = w1.heap.size + 1 := by simp
            have e0 := below_cell hBA (by omega) (below_cell hBn (by omega) t0)
            have e1 := below_cell hBA (by omega) (below_cell hBn (by omega) t1)
            have e2 := below_cell hBA (by omega) (below_cell hBn (by omega) t2)
            have e3 := below_cell hBA (by omega) (below_cell hBn (by omega) t3)
            have e4 := below_cell hBA (by omega) (below_cell hBn (by omega) t4)
            have e5 := below_cell hBA (by omega) (below_cell hBn (by omega) t5)
            have e6 := below_cell hBA (by omega) (below_cell hBn (by omega) t6)
            have e7 := below_cell hBA (by omega) (below_cell hBn (by omega) t7)
            have hSA : SlA (w1.alloc (.cells #[] 35)) 0 8 encWarning (.slice (some ⟨b, off, none⟩) xs.length cap) xs := (h2.at hBn).at hBA
            have hbn : b < w1.heap.size := by omega
            have A1 := hid (Acc.lit (α := WarningD) (W := (w1.alloc (.cells #[] 35))) (w0 := w1) (e := 35) (Below.refl _ _) 8 encWarning)
            have hT := hid (sla_take hSA hk)
            have hU := hid hSA
            clear hSA t0 t1 t2 t3 t4 t5 t6 t7 h2 h hc hf hb had
            obtain ⟨i0, hi0, iz0, iz1, iz2⟩ := info_parts info_Warning
            go_wp2_with (first | (at_builtin; refine wpList_pushAll rfl (.tmp 48) (.tmp 51) 29 rfl i0 _ 72 Try.underlying29 hi0 iz0 iz1 iz2 rfl (by decide) (fun _ => rfl) rfl A1.out rfl hT.out one_encWarning (by simp only [List.length_append, List.length_nil, List.length_take, List.length_drop, List.length_cons]; (try unfold maxLen); omega) (by simp only [List.length_append, List.length_nil, List.length_take, List.length_drop, List.length_cons]; (try unfold maxLen); omega) ?_; intro v3 w3 hA3; have m0 := hA3.cellAt (by rw [hzA]; omega) (by omega) e0; have m1 := hA3.cellAt (by rw [hzA]; omega) (by omega) e1; have m2 := hA3.cellAt (by rw [hzA]; omega) (by omega) e2; have m3 := hA3.cellAt (by rw [hzA]; omega) (by omega) e3; have m4 := hA3.cellAt (by rw [hzA]; omega) (by omega) e4; have m5 := hA3.cellAt (by rw [hzA]; omega) (by omega) e5; have m6 := hA3.cellAt (by rw [hzA]; omega) (by omega) e6; have m7 := hA3.cellAt (by rw [hzA]; omega) (by omega) e7; have HA3 := hid hA3; clear hA3) | (at_builtin; (refine wpList_push (v := v3) rfl (.tmp 53) (.tmp 55) 29 rfl i0 _ 72 Try.underlying29 hi0 iz0 iz1 iz2 rfl (by decide) (fun _ => rfl) (⟨n, p, f, u, x, y, r, s⟩ : WarningD) rfl HA3.out (Below.refl _ _) 35 1 rfl (one_encWarning _) (by simp only [List.length_append, List.length_nil, List.length_take, List.length_drop, List.length_cons]; (try unfold maxLen); omega) (by simp only [List.length_append, List.length_nil, List.length_take, List.length_drop, List.length_cons]; (try unfold maxLen); omega) ?_); intro v4 w4 hA4; have HA4 := hid hA4; clear hA4) | (at_builtin; (refine wpList_pushAll (v := v4) rfl (.tmp 57) (.tmp 60) 29 rfl i0 _ 72 Try.underlying29 hi0 iz0 iz1 iz2 rfl (by decide) (fun _ => rfl) rfl HA4.out rfl (HA4.out.sl (sla_drop hU.out hk (fun hkc => by first | rfl | (rw [if_neg (by omega)]) | (simp; omega))) (fun b' hb' => by have hbe : b' = b := (by first | exact own_at hb' | exact own_ite hb'); omega)) one_encWarning (by simp only [List.length_append, List.length_nil, List.length_take, List.length_drop, List.length_cons]; (try unfold maxLen); omega) (by simp only [List.length_append, List.length_nil, List.length_take, List.length_drop, List.length_cons]; (try unfold maxLen); omega) ?_); intro v5 w5 hA5; have HA5 := hid hA5; clear hA5))
            all_goals
              go_ret2
              have hD := HA5.out.done (fun _ => rfl) hBW (by omega)
              rw [HR.out.1, HR.out.2]
              exact ⟨_, rfl, hD.1, by simpa using hD.2⟩
          · have hxn : xs = [] := List.eq_nil_of_length_eq_zero (by omega)
            subst hxn
            obtain rfl : k = 0 := by simpa using hk
            cases ad with
            | none =>
              have hcm : cap ≤ maxLen := by
                rcases h2 with ⟨_, _, e, _, hc⟩ | ⟨_, _, _, _, hp, _⟩
                · simp at e; obtain ⟨-, rfl⟩ := e; exact hc
                · simp at hp
              have HR := hid (show adR [] ⟨n, p, f, u, x, y, r, s⟩ = [] ++ [⟨n, p, f, u, x, y, r, s⟩] ++ [] ∧ adC [] ⟨n, p, f, u, x, y, r, s⟩ = 0 by
                have hw' : warnD ⟨n, p, f, u, x, y, r, s⟩ = true := HW.out
                simp [adR, adC, HQ.out, hw', HH.out, HL.out])
              go_wp2
              (refine wp_region_quiet_below (by kernel_rfl) (by kernel_rfl) ?_; (repeat (first | go_big_quiet_step ((fail)) | quiet_step ((fail)))); refine wpQuiet_nil ?_; intro w1 hw'; have hb := below_of_regrown hw'; clear hw'; obtain ⟨hc, hf⟩ := bcell hb; have hz := hb.size; (try simp at hz); (try have hz0 : ∀ b, b < w.heap.size → b < w1.heap.size := fun b h => by omega); (try have hz1 : w.heap.size < w1.heap.size := by omega); (try have hz2 : w.heap.size + 1 < w1.heap.size := by omega); (try have hz3 : w.heap.size + 2 < w1.heap.size := by omega))
              have s0' := (hc _ _ (by omega)).trans s0
              have r1' := cellr s0'
              go_wp2
              (refine wp_region_quiet_below (by kernel_rfl) (by kernel_rfl) ?_; (repeat (first | go_big_quiet_step ((fail)) | quiet_step ((fail)))); refine wpQuiet_nil ?_; intro w1 hw'; have hb := below_of_regrown hw'; clear hw'; obtain ⟨hc, hf⟩ := bcell hb; have hz := hb.size; (try simp at hz); (try have hz0 : ∀ b, b < w.heap.size → b < w1.heap.size := fun b h => by omega); (try have hz1 : w.heap.size < w1.heap.size := by omega); (try have hz2 : w.heap.size + 1 < w1.heap.size := by omega); (try have hz3 : w.heap.size + 2 < w1.heap.size := by omega))
              have hz3 := hb.size
              have hBn : Below w2.heap.size w2 w1 := by (repeat' (first | (with_reducible exact Below.refl _ _) | (with_reducible refine Below.alloc ?_ ?_ _) | (with_reducible refine Below.drew ?_) | (with_reducible refine below_drewN ?_ _) | (with_reducible refine Below.setCell ?_ ?_ _) | (with_reducible refine below_via ‹_› ?_ ?_) | (with_reducible refine below_grow ?_ ?_ _ _) | omega | (simp; done) | (simp; omega)))
              have hzn := hBn.size
              have hBW : Below w.heap.size w (w1.alloc (.cells #[] 35)) := by (repeat' (first | (with_reducible exact Below.refl _ _) | (with_reducible refine Below.alloc ?_ ?_ _) | (with_reducible refine Below.drew ?_) | (with_reducible refine below_drewN ?_ _) | (with_reducible refine Below.setCell ?_ ?_ _) | (with_reducible refine below_via ‹_› ?_ ?_) | (with_reducible refine below_grow ?_ ?_ _ _) | omega | (simp; done) | (simp; omega)))
              have hBA : Below w1.heap.size w1 (w1.alloc (.cells #[] 35)) := by (repeat' (first | (with_reducible exact Below.refl _ _) | (with_reducible refine Below.alloc ?_ ?_ _) | (with_reducible refine Below.drew ?_) | (with_reducible refine below_drewN ?_ _) | (with_reducible refine Below.setCell ?_ ?_ _) | (with_reducible refine below_via ‹_› ?_ ?_) | (with_reducible refine below_grow ?_ ?_ _ _) | omega | (simp; done) | (simp; omega)))
              have hzA : (w1.alloc (.cells #[] 35)).heap.size = w1.heap.size + 1 := by simp
              have e0 := below_cell hBA (by omega) (below_cell hBn (by omega) t0)
              have e1 := below_cell hBA (by omega) (below_cell hBn (by omega) t1)
              have e2 := below_cell hBA (by omega) (below_cell hBn (by omega) t2)
              have e3 := below_cell hBA (by omega) (below_cell hBn (by omega) t3)
              have e4 := below_cell hBA (by omega) (below_cell hBn (by omega) t4)
              have e5 := below_cell hBA (by omega) (below_cell hBn (by omega) t5)
              have e6 := below_cell hBA (by omega) (below_cell hBn (by omega) t6)
              have e7 := below_cell hBA (by omega) (below_cell hBn (by omega) t7)
              have A1 := hid (Acc.lit (α := WarningD) (W := (w1.alloc (.cells #[] 35))) (w0 := w1) (e := 35) (Below.refl _ _) 8 encWarning)
              clear t0 t1 t2 t3 t4 t5 t6 t7 h2 h hc hf hb had
              obtain ⟨i0, hi0, iz0, iz1, iz2⟩ := info_parts info_Warning
              go_wp2_with (first | (at_builtin; refine wpList_pushAll rfl (.tmp 48) (.tmp 51) 29 rfl i0 _ 72 Try.underlying29 hi0 iz0 iz1 iz2 rfl (by decide) (fun _ => rfl) rfl A1.out rfl (Or.inl ⟨_, _, rfl, rfl, by first | exact hcm | exact Nat.zero_le _ | (simp; omega)⟩ : SlA _ 0 8 encWarning _ []) one_encWarning (by simp only [List.length_append, List.length_nil, List.length_take, List.length_drop, List.length_cons]; (try unfold maxLen); omega) (by simp only [List.length_append, List.length_nil, List.length_take, List.length_drop, List.length_cons]; (try unfold maxLen); omega) ?_; intro v3 w3 hA3; have m0 := hA3.cellAt (by rw [hzA]; omega) (by omega) e0; have m1 := hA3.cellAt (by rw [hzA]; omega) (by omega) e1; have m2 := hA3.cellAt (by rw [hzA]; omega) (by omega) e2; have m3 := hA3.cellAt (by rw [hzA]; omega) (by omega) e3; have m4 := hA3.cellAt (by rw [hzA]; omega) (by omega) e4; have m5 := hA3.cellAt (by rw [hzA]; omega) (by omega) e5; have m6 := hA3.cellAt (by rw [hzA]; omega) (by omega) e6; have m7 := hA3.cellAt (by rw [hzA]; omega) (by omega) e7; have HA3 := hid hA3; clear hA3) | (at_builtin; (refine wpList_push (v := v3) rfl (.tmp 53) (.tmp 55) 29 rfl i0 _ 72 Try.underlying29 hi0 iz0 iz1 iz2 rfl (by decide) (fun _ => rfl) (⟨n, p, f, u, x, y, r, s⟩ : WarningD) rfl HA3.out (Below.refl _ _) 35 1 rfl (one_encWarning _) (by simp only [List.length_append, List.length_nil, List.length_take, List.length_drop, List.length_cons]; (try unfold maxLen); omega) (by simp only [List.length_append, List.length_nil, List.length_take, List.length_drop, List.length_cons]; (try unfold maxLen); omega) ?_); intro v4 w4 hA4; have HA4 := hid hA4; clear hA4) | (at_builtin; (refine wpList_pushAll (v := v4) rfl (.tmp 57) (.tmp 60) 29 rfl i0 _ 72 Try.underlying29 hi0 iz0 iz1 iz2 rfl (by decide) (fun _ => rfl) rfl HA4.out rfl (Or.inl ⟨_, _, rfl, rfl, by first | exact hcm | exact Nat.zero_le _ | (simp; omega)⟩ : SlA _ 0 8 encWarning _ []) one_encWarning (by simp only [List.length_append, List.length_nil, List.length_take, List.length_drop, List.length_cons]; (try unfold maxLen); omega) (by simp only [List.length_append, List.length_nil, List.length_take, List.length_drop, List.length_cons]; (try unfold maxLen); omega) ?_); intro v5 w5 hA5; have HA5 := hid hA5; clear hA5))
              all_goals
                go_ret2
                have hD := HA5.out.done (fun _ => rfl) hBW (by omega)
                rw [HR.out.1, HR.out.2]
                exact ⟨_, rfl, hD.1, by simpa using hD.2⟩
            | some a =>
              have hcm : cap ≤ maxLen := by
                rcases h2 with ⟨_, _, e, _, hc⟩ | ⟨_, _, _, _, hp, _⟩
                · simp at e; obtain ⟨-, rfl⟩ := e; exact hc
                · simp at hp
              have HR := hid (show adR [] ⟨n, p, f, u, x, y, r, s⟩ = [] ++ [⟨n, p, f, u, x, y, r, s⟩] ++ [] ∧ adC [] ⟨n, p, f, u, x, y, r, s⟩ = 0 by
                have hw' : warnD ⟨n, p, f, u, x, y, r, s⟩ = true := HW.out
                simp [adR, adC, HQ.out, hw', HH.out, HL.out])
              go_wp2
              (refine wp_region_quiet_below (by kernel_rfl) (by kernel_rfl) ?_; (repeat (first | go_big_quiet_step ((fail)) | quiet_step ((fail)))); refine wpQuiet_nil ?_; intro w1 hw'; have hb := below_of_regrown hw'; clear hw'; obtain ⟨hc, hf⟩ := bcell hb; have hz := hb.size; (try simp at hz); (try have hz0 : ∀ b, b < w.heap.size → b < w1.heap.size := fun b h => by omega); (try have hz1 : w.heap.size < w1.heap.size := by omega); (try have hz2 : w.heap.size + 1 < w1.heap.size := by omega); (try have hz3 : w.heap.size + 2 < w1.heap.size := by omega))
              have s0' := (hc _ _ (by omega)).trans s0
              have r1' := cellr s0'
              go_wp2
              (refine wp_region_quiet_below (by kernel_rfl) (by kernel_rfl) ?_; (repeat (first | go_big_quiet_step ((fail)) | quiet_step ((fail)))); refine wpQuiet_nil ?_; intro w1 hw'; have hb := below_of_regrown hw'; clear hw'; obtain ⟨hc, hf⟩ := bcell hb; have hz := hb.size; (try simp at hz); (try have hz0 : ∀ b, b < w.heap.size → b < w1.heap.size := fun b h => by omega); (try have hz1 : w.heap.size < w1.heap.size := by omega); (try have hz2 : w.heap.size + 1 < w1.heap.size := by omega); (try have hz3 : w.heap.size + 2 < w1.heap.size := by omega))
              have hz3 := hb.size
              have hBn : Below w2.heap.size w2 w1 := by (repeat' (first | (with_reducible exact Below.refl _ _) | (with_reducible refine Below.alloc ?_ ?_ _) | (with_reducible refine Below.drew ?_) | (with_reducible refine below_drewN ?_ _) | (with_reducible refine Below.setCell ?_ ?_ _) | (with_reducible refine below_via ‹_› ?_ ?_) | (with_reducible refine below_grow ?_ ?_ _ _) | omega | (simp; done) | (simp; omega)))
              have hzn := hBn.size
              have hBW : Below w.heap.size w (w1.alloc (.cells #[] 35)) := by (repeat' (first | (with_reducible exact Below.refl _ _) | (with_reducible refine Below.alloc ?_ ?_ _) | (with_reducible refine Below.drew ?_) | (with_reducible refine below_drewN ?_ _) | (with_reducible refine Below.setCell ?_ ?_ _) | (with_reducible refine below_via ‹_› ?_ ?_) | (with_reducible refine below_grow ?_ ?_ _ _) | omega | (simp; done) | (simp; omega)))
              have hBA : Below w1.heap.size w1 (w1.alloc (.cells #[] 35)) := by (repeat' (first | (with_reducible exact Below.refl _ _) | (with_reducible refine Below.alloc ?_ ?_ _) | (with_reducible refine Below.drew ?_) | (with_reducible refine below_drewN ?_ _) | (with_reducible refine Below.setCell ?_ ?_ _) | (with_reducible refine below_via ‹_› ?_ ?_) | (with_reducible refine below_grow ?_ ?_ _ _) | omega | (simp; done) | (simp; omega)))
              have hzA : (w1.alloc (.cells #[] 35)).heap.size = w1.heap.size + 1 := by simp
              have e0 := below_cell hBA (by omega) (below_cell hBn (by omega) t0)
              have e1 := below_cell hBA (by omega) (below_cell hBn (by omega) t1)
              have e2 := below_cell hBA (by omega) (below_cell hBn (by omega) t2)
              have e3 := below_cell hBA (by omega) (below_cell hBn (by omega) t3)
              have e4 := below_cell hBA (by omega) (below_cell hBn (by omega) t4)
              have e5 := below_cell hBA (by omega) (below_cell hBn (by omega) t5)
              have e6 := below_cell hBA (by omega) (below_cell hBn (by omega) t6)
              have e7 := below_cell hBA (by omega) (below_cell hBn (by omega) t7)
              have A1 := hid (Acc.lit (α := WarningD) (W := (w1.alloc (.cells #[] 35))) (w0 := w1) (e := 35) (Below.refl _ _) 8 encWarning)
              clear t0 t1 t2 t3 t4 t5 t6 t7 h2 h hc hf hb had
              obtain ⟨i0, hi0, iz0, iz1, iz2⟩ := info_parts info_Warning
              go_wp2_with (first | (at_builtin; refine wpList_pushAll rfl (.tmp 48) (.tmp 51) 29 rfl i0 _ 72 Try.underlying29 hi0 iz0 iz1 iz2 rfl (by decide) (fun _ => rfl) rfl A1.out rfl (Or.inl ⟨_, _, rfl, rfl, by first | exact hcm | exact Nat.zero_le _ | (simp; omega)⟩ : SlA _ 0 8 encWarning _ []) one_encWarning (by simp only [List.length_append, List.length_nil, List.length_take, List.length_drop, List.length_cons]; (try unfold maxLen); omega) (by simp only [List.length_append, List.length_nil, List.length_take, List.length_drop, List.length_cons]; (try unfold maxLen); omega) ?_; intro v3 w3 hA3; have m0 := hA3.cellAt (by rw [hzA]; omega) (by omega) e0; have m1 := hA3.cellAt (by rw [hzA]; omega) (by omega) e1; have m2 := hA3.cellAt (by rw [hzA]; omega) (by omega) e2; have m3 := hA3.cellAt (by rw [hzA]; omega) (by omega) e3; have m4 := hA3.cellAt (by rw [hzA]; omega) (by omega) e4; have m5 := hA3.cellAt (by rw [hzA]; omega) (by omega) e5; have m6 := hA3.cellAt (by rw [hzA]; omega) (by omega) e6; have m7 := hA3.cellAt (by rw [hzA]; omega) (by omega) e7; have HA3 := hid hA3; clear hA3) | (at_builtin; (refine wpList_push (v := v3) rfl (.tmp 53) (.tmp 55) 29 rfl i0 _ 72 Try.underlying29 hi0 iz0 iz1 iz2 rfl (by decide) (fun _ => rfl) (⟨n, p, f, u, x, y, r, s⟩ : WarningD) rfl HA3.out (Below.refl _ _) 35 1 rfl (one_encWarning _) (by simp only [List.length_append, List.length_nil, List.length_take, List.length_drop, List.length_cons]; (try unfold maxLen); omega) (by simp only [List.length_append, List.length_nil, List.length_take, List.length_drop, List.length_cons]; (try unfold maxLen); omega) ?_); intro v4 w4 hA4; have HA4 := hid hA4; clear hA4) | (at_builtin; (refine wpList_pushAll (v := v4) rfl (.tmp 57) (.tmp 60) 29 rfl i0 _ 72 Try.underlying29 hi0 iz0 iz1 iz2 rfl (by decide) (fun _ => rfl) rfl HA4.out rfl (Or.inl ⟨_, _, rfl, rfl, by first | exact hcm | exact Nat.zero_le _ | (simp; omega)⟩ : SlA _ 0 8 encWarning _ []) one_encWarning (by simp only [List.length_append, List.length_nil, List.length_take, List.length_drop, List.length_cons]; (try unfold maxLen); omega) (by simp only [List.length_append, List.length_nil, List.length_take, List.length_drop, List.length_cons]; (try unfold maxLen); omega) ?_); intro v5 w5 hA5; have HA5 := hid hA5; clear hA5))
              all_goals
                go_ret2
                have hD := HA5.out.done (fun _ => rfl) hBW (by omega)
                rw [HR.out.1, HR.out.2]
                exact ⟨_, rfl, hD.1, by simpa using hD.2⟩
end Go.Proofs.Ytajlllpjgeoliaa
