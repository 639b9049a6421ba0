/- Warnings: the place of a number, the list that one is put into; plain, and the search. -/
import Derived.Test.YtajlllpjgeoliaaWarn
import Derived.Test.YtajlllpjgeoliaaPush
namespace Go.Proofs.Ytajlllpjgeoliaa
open Go.RowKit Go.Sort
set_option maxRecDepth 100000

/-- how many warnings at the head have a less number -/
def lowN (n : Int) : List WarningD → Nat
  | [] => 0
  | d :: l => if d.fNumber < n then lowN n l + 1 else 0
theorem lowN_le (n : Int) : ∀ l, lowN n l ≤ l.length
  | [] => by simp [lowN]
  | d :: l => by have := lowN_le n l; simp only [lowN]; split <;> simp <;> omega
theorem lowN_step (n : Int) (xs : List WarningD) (k : Nat) (h : k < xs.length) : lowN n (xs.drop k) = if xs[k].fNumber < n then lowN n (xs.drop (k + 1)) + 1 else 0 := by
  rw [List.drop_eq_getElem_cons h]; rfl
def hitN (xs : List WarningD) (n : Int) : Bool := match xs[lowN n xs]? with | some d => d.fNumber == n | none => false
def adR (xs : List WarningD) (d : WarningD) : List WarningD :=
  if warnsB xs && warnD d && !hitN xs d.fNumber && !((xs.length : Int) == 32) then xs.take (lowN d.fNumber xs) ++ [d] ++ xs.drop (lowN d.fNumber xs) else []
def adC (xs : List WarningD) (d : WarningD) : Int :=
  if warnsB xs && warnD d then (if hitN xs d.fNumber then 4 else if (xs.length : Int) == 32 then 5 else 0) else 1
theorem adR_len (xs : List WarningD) (d : WarningD) : (adR xs d).length ≤ xs.length + 1 := by
  have := lowN_le d.fNumber xs
  unfold adR; split
  · simp; omega
  · simp
set_option maxHeartbeats 1000000 in
theorem c_warningOf (v : Value) (xs : List WarningD) (n : Int) (w : World) (h : SlA w 0 8 encWarning v xs) :
    Calls Try.prog 34 #[v, .int .i64 n] w fun e w' => e = .returned (.tuple #[.int .i64 (lowN n xs), .bool (hitN xs n)]) ∧ Below w.heap.size w w' := by
  obtain ⟨ad, cap, b, off, rfl, hm, had, hx⟩ := h.uni
  go_enter Try.func34, Try.ntmps34
  go_wp2
  go_loop [6] (fun i => ∃ k : Nat, k ≤ xs.length ∧ i = .int .i64 k ∧ lowN n xs = k + lowN n (xs.drop k)) (fun i => xs.length - (intOf i).toNat)
  case atStart => exact ⟨0, Nat.zero_le _, rfl, by simp⟩
  case round =>
    obtain ⟨k, hk, rfl, hn⟩ := hrel
    by_cases hlt : k < xs.length
    · have hlI : (k : Int) < xs.length := by omega
      have hld : decide (k < xs.length) = true := by simpa using hlt
      obtain ⟨rfl, hbb, -, hcc, hmc⟩ := had (by omega)
      have HN := hid (hn.trans (by rw [lowN_step n xs k hlt])); clear hn
      have g0 := hx k hlt 0 (by omega)
      simp only [encWarning, List.getD_cons_zero, Nat.add_zero] at g0
      have HX := hid (List.getElem?_eq_getElem hlt)
      clear hx
      cases hq : decide (xs[k].fNumber < n)
      · have hql : ¬ xs[k].fNumber < n := of_decide_eq_false hq
        have HL := hid (show lowN n xs = k by rw [HN.out, if_neg hql]; simp)
        have HH := hid (show hitN xs n = (xs[k].fNumber == n) by rw [hitN, HL.out, HX.out])
        go_wp2
        go_quiet (fail)
        go_wp2
        go_ret2
        rw [HH.out, HL.out]
        exact ⟨rfl, by (repeat' (first | (with_reducible exact Below.refl _ _) | (with_reducible refine Below.alloc ?_ ?_ _) | (with_reducible refine Below.drew ?_) | (with_reducible refine below_drewN ?_ _) | (with_reducible refine Below.setCell ?_ ?_ _) | (with_reducible refine below_via ‹_› ?_ ?_) | (with_reducible refine below_grow ?_ ?_ _ _) | omega | (simp; done) | (simp; omega)))⟩
      · have hql : xs[k].fNumber < n := of_decide_eq_true hq
        have HL := hid hql
        go_wp2
        go_round
        case rel => exact ⟨k + 1, by omega, by go_num, by rw [HN.out, if_pos HL.out]; omega⟩
        case measure => simp [intOf]; omega
    · have hld : decide (k < xs.length) = false := by simpa using hlt
      have hlN : ¬ (k : Int) < xs.length := by omega
      have HL := hid (show lowN n xs = k by rw [hn, List.drop_eq_nil_of_le (by omega)]; simp [lowN]); clear hn
      have HH := hid (show hitN xs n = false by rw [hitN, HL.out, List.getElem?_eq_none (by omega)])
      clear hx
      go_wp2
      go_quiet (fail)
      go_wp2
      go_ret2
      rw [HH.out, HL.out]
      exact ⟨rfl, by (repeat' (first | (with_reducible exact Below.refl _ _) | (with_reducible refine Below.alloc ?_ ?_ _) | (with_reducible refine Below.drew ?_) | (with_reducible refine below_drewN ?_ _) | (with_reducible refine Below.setCell ?_ ?_ _) | (with_reducible refine below_via ‹_› ?_ ?_) | (with_reducible refine below_grow ?_ ?_ _ _) | omega | (simp; done) | (simp; omega)))⟩
end Go.Proofs.Ytajlllpjgeoliaa
