/- Marks of a slice of Work. Printed by wip/genmark.py. -/
import Derived.Test.YtmolcfagmiecjaaMark
import Derived.Test.YtmolcfagmiecjaaMarkT
import Derived.Test.YtmolcfagmiecjaaTWork
namespace Go.Proofs.Ytmolcfagmiecjaa
open Go.RowKit Go.Sort
set_option maxRecDepth 100000

def marksWork (m : Int) (n : Nat) : List WorkD := (List.range n).map fun (i : Nat) => ⟨mkB (m + 7 * (i : Int)), m + 7 * (i : Int) + 1, m + 7 * (i : Int) + 1 + 1, m + 7 * (i : Int) + 1 + 1 + 1, m + 7 * (i : Int) + 1 + 1 + 1 + 1, m + 7 * (i : Int) + 1 + 1 + 1 + 1 + 1, m + 7 * (i : Int) + 1 + 1 + 1 + 1 + 1 + 1⟩
@[simp] theorem marksWork_len (m : Int) (n : Nat) : (marksWork m n).length = n := by simp [marksWork]
theorem marksWork_get {m : Int} {n k : Nat} (h : k < (marksWork m n).length) : (marksWork m n)[k] = ⟨mkB (m + 7 * (k : Int)), m + 7 * (k : Int) + 1, m + 7 * (k : Int) + 1 + 1, m + 7 * (k : Int) + 1 + 1 + 1, m + 7 * (k : Int) + 1 + 1 + 1 + 1, m + 7 * (k : Int) + 1 + 1 + 1 + 1 + 1, m + 7 * (k : Int) + 1 + 1 + 1 + 1 + 1 + 1⟩ := by simp [marksWork]
set_option maxHeartbeats 2000000 in
theorem c_markWorkS (v : Value) (xs : List WorkD) (m : Int) (lo : Nat) (w : World) (h : SlO w lo 7 encWork v xs) (hl : xs.length ≤ 1099511627776) (h0 : 0 ≤ m) (h1 : m ≤ 1099511627776) :
    Calls Try.prog 43 #[v, .int .i64 m] w fun e w' => e = .returned (.int .i64 (m + 7 * xs.length)) ∧ w.grownBy w' v.ownBlock ∧ SlO w' lo 7 encWork v (marksWork m xs.length) := by
  rcases h.1 with ⟨a, cap, rfl, rfl, hcap⟩ | ⟨b, off, cap, rfl, hp, hc, hm, hlo, hb, hx⟩
  · have hO := hid h
    go_enter Try.func43, Try.ntmps43
    go_wp2
    refine wp_loop_rounds 1 ?_
    rw [rounds_succ]
    go_wp2
    go_ret
    exact ⟨ret_int (by simp), grownBy_refl _ _, hO.out⟩
  · have hM := MarkC.start (enc := encWork) (ys := marksWork m xs.length) (fun _ => rfl) h (by simp) hp
    unfold maxLen at hm
    have hfl := hid (flat_len (n := 7) encWork (fun _ => rfl) (marksWork m xs.length))
    have hbw := hb
    clear hx h
    go_enter Try.func43, Try.ntmps43
    go_wp2
    go_loopw [1, 5] (fun q i wr => ∃ k : Nat, k ≤ xs.length ∧ i = .int .i64 k ∧ q = .int .i64 (m + 7 * k) ∧ MarkC w wr b off ((marksWork m xs.length).flatMap encWork) (k * 7)) (fun _ i _ => xs.length - (intOf i).toNat)
    case atStart => exact ⟨0, Nat.zero_le _, rfl, by simp, by simpa using hM⟩
    case round =>
      clear hM
      obtain ⟨k, hk, rfl, rfl, hM⟩ := hrel
      by_cases hlt : k < xs.length
      · have hzr := hM.1.size
        have hbr : b < wr.heap.size := by omega
        have hlI : (k : Int) < xs.length := by omega
        obtain ⟨u0, hu0⟩ := hM.2.2.2.1 (k * 7) (by rw [hfl.out]; simp; omega)
        obtain ⟨u1, hu1⟩ := hM.2.2.2.1 (k * 7 + 1) (by rw [hfl.out]; simp; omega)
        obtain ⟨u2, hu2⟩ := hM.2.2.2.1 (k * 7 + 2) (by rw [hfl.out]; simp; omega)
        obtain ⟨u3, hu3⟩ := hM.2.2.2.1 (k * 7 + 3) (by rw [hfl.out]; simp; omega)
        obtain ⟨u4, hu4⟩ := hM.2.2.2.1 (k * 7 + 4) (by rw [hfl.out]; simp; omega)
        obtain ⟨u5, hu5⟩ := hM.2.2.2.1 (k * 7 + 5) (by rw [hfl.out]; simp; omega)
        obtain ⟨u6, hu6⟩ := hM.2.2.2.1 (k * 7 + 6) (by rw [hfl.out]; simp; omega)
        simp only [← Nat.add_assoc] at hu0 hu1 hu2 hu3 hu4 hu5 hu6
        have hfz := hM.2.2.1
        have hM' := hid hM
        clear hM
        go_wp2_with fail
        refine (c_markText _ _ (by omega) (by omega)).mono ?_
        rintro e w1 ⟨rfl, hb1⟩
        obtain ⟨hc1, hf1⟩ := bcell hb1; have hz1 := hb1.size; (try simp at hz1); (try have hy1 : b < w1.heap.size := by omega)
        go_wp2_with fail
        go_roundw
        case rel =>
          have F := fun j hj => (flat_get (n := 7) encWork (fun _ => rfl) (marksWork m xs.length) k (by simpa using hlt) j hj).symm
          simp only [marksWork_get, encWork] at F
          refine ⟨k + 1, by omega, by go_num, by go_num, ?_⟩
          have E : MarkC w _ b off ((marksWork m xs.length).flatMap encWork) ((k + 1) * 7) := ((((((((hM'.out.below (hb1.mono (by first | omega | (simp; omega)))).set (by rw [hfl.out]; simp; omega) (F 0 (by omega)) rfl).set (by rw [hfl.out]; simp; omega) (F 1 (by omega)) rfl).set (by rw [hfl.out]; simp; omega) (F 2 (by omega)) rfl).set (by rw [hfl.out]; simp; omega) (F 3 (by omega)) rfl).set (by rw [hfl.out]; simp; omega) (F 4 (by omega)) rfl).set (by rw [hfl.out]; simp; omega) (F 5 (by omega)) rfl).set (by rw [hfl.out]; simp; omega) (F 6 (by omega)) (by omega))
          simp only [← Nat.add_assoc] at E
          exact E
        case measure => simp [intOf]; omega
      · have e : k = xs.length := by omega
        subst e
        go_wp2
        go_ret
        have hS := MarkC.own (enc := encWork) (n := 7) (lo := lo) (cap := cap) (fun _ => rfl) (ys := marksWork m xs.length) (by simpa using hM) hlo (by simp; omega) (by unfold maxLen; omega)
        simp only [marksWork_len] at hS
        exact ⟨rfl, hM.1, hS⟩
end Go.Proofs.Ytmolcfagmiecjaa
