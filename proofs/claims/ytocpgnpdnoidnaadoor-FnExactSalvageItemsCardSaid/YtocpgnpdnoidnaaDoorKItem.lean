/- Marks of a slice of Item. Printed by wip/genmark.py. -/
import Derived.Test.YtocpgnpdnoidnaaDoorMark
import Derived.Test.YtocpgnpdnoidnaaDoorMarkT
import Derived.Test.YtocpgnpdnoidnaaDoorTItem
namespace Go.Proofs.YtocpgnpdnoidnaaDoor
open Go.RowKit Go.Sort
set_option maxRecDepth 100000

def marksItem (m : Int) (n : Nat) : List ItemD := (List.range n).map fun (i : Nat) => ⟨mkB (m + 2 * (i : Int)), mkB (m + 2 * (i : Int) + 1)⟩
@[simp] theorem marksItem_len (m : Int) (n : Nat) : (marksItem m n).length = n := by simp [marksItem]
theorem marksItem_get {m : Int} {n k : Nat} (h : k < (marksItem m n).length) : (marksItem m n)[k] = ⟨mkB (m + 2 * (k : Int)), mkB (m + 2 * (k : Int) + 1)⟩ := by simp [marksItem]
set_option maxHeartbeats 2000000 in
theorem c_markItemS (v : Value) (xs : List ItemD) (m : Int) (lo : Nat) (w : World) (h : SlO w lo 2 encItem v xs) (hl : xs.length ≤ 1099511627776) (h0 : 0 ≤ m) (h1 : m ≤ 1099511627776) :
    Calls Tryd.prog 19 #[v, .int .i64 m] w fun e w' => e = .returned (.int .i64 (m + 2 * xs.length)) ∧ w.grownBy w' v.ownBlock ∧ SlO w' lo 2 encItem v (marksItem m xs.length) := by
  rcases h.1 with ⟨a, cap, rfl, rfl, hcap⟩ | ⟨b, off, cap, rfl, hp, hc, hm, hlo, hb, hx⟩
  · have hO := hid h
    go_enter Tryd.func19, Tryd.ntmps19
    go_wp2
    refine wp_loop_rounds 1 ?_
    rw [rounds_succ]
    go_wp2
    go_ret
    exact ⟨ret_int (by simp), grownBy_refl _ _, hO.out⟩
  · have hM := MarkC.start (enc := encItem) (ys := marksItem m xs.length) (fun _ => rfl) h (by simp) hp
    unfold maxLen at hm
    have hfl := hid (flat_len (n := 2) encItem (fun _ => rfl) (marksItem m xs.length))
    have hbw := hb
    clear hx h
    go_enter Tryd.func19, Tryd.ntmps19
    go_wp2
    go_loopw [1, 5] (fun q i wr => ∃ k : Nat, k ≤ xs.length ∧ i = .int .i64 k ∧ q = .int .i64 (m + 2 * k) ∧ MarkC w wr b off ((marksItem m xs.length).flatMap encItem) (k * 2)) (fun _ i _ => xs.length - (intOf i).toNat)
    case atStart => exact ⟨0, Nat.zero_le _, rfl, by simp, by simpa using hM⟩
    case round =>
      clear hM
      obtain ⟨k, hk, rfl, rfl, hM⟩ := hrel
      by_cases hlt : k < xs.length
      · have hzr := hM.1.size
        have hbr : b < wr.heap.size := by omega
        have hlI : (k : Int) < xs.length := by omega
        obtain ⟨u0, hu0⟩ := hM.2.2.2.1 (k * 2) (by rw [hfl.out]; simp; omega)
        obtain ⟨u1, hu1⟩ := hM.2.2.2.1 (k * 2 + 1) (by rw [hfl.out]; simp; omega)
        simp only [← Nat.add_assoc] at hu0 hu1
        have hfz := hM.2.2.1
        have hM' := hid hM
        clear hM
        go_wp2_with fail
        refine (c_markText _ _ (by omega) (by omega)).mono ?_
        rintro e w1 ⟨rfl, hb1⟩
        obtain ⟨hc1, hf1⟩ := bcell hb1; have hz1 := hb1.size; (try simp at hz1); (try have hy1 : b < w1.heap.size := by omega)
        go_wp2_with fail
        refine (c_markText _ _ (by omega) (by omega)).mono ?_
        rintro e w2 ⟨rfl, hb2⟩
        obtain ⟨hc2, hf2⟩ := bcell hb2; have hz2 := hb2.size; (try simp at hz2); (try have hy2 : b < w2.heap.size := by omega)
        go_wp2_with fail
        go_roundw
        case rel =>
          have F := fun j hj => (flat_get (n := 2) encItem (fun _ => rfl) (marksItem m xs.length) k (by simpa using hlt) j hj).symm
          simp only [marksItem_get, encItem] at F
          refine ⟨k + 1, by omega, by go_num, by go_num, ?_⟩
          have E : MarkC w _ b off ((marksItem m xs.length).flatMap encItem) ((k + 1) * 2) := ((((hM'.out.below (hb1.mono (by first | omega | (simp; omega)))).set (by rw [hfl.out]; simp; omega) (F 0 (by omega)) rfl).below (hb2.mono (by first | omega | (simp; omega)))).set (by rw [hfl.out]; simp; omega) (F 1 (by omega)) (by omega))
          simp only [← Nat.add_assoc] at E
          exact E
        case measure => simp [intOf]; omega
      · have e : k = xs.length := by omega
        subst e
        go_wp2
        go_ret
        have hS := MarkC.own (enc := encItem) (n := 2) (lo := lo) (cap := cap) (fun _ => rfl) (ys := marksItem m xs.length) (by simpa using hM) hlo (by simp; omega) (by unfold maxLen; omega)
        simp only [marksItem_len] at hS
        exact ⟨rfl, hM.1, hS⟩
set_option maxHeartbeats 2000000 in
theorem c_heldItemS (v : Value) (n : Nat) (m : Int) (lo : Nat) (w : World) (h : SlA w lo 2 encItem v (marksItem m n)) (hl : n ≤ 1099511627776) (h0 : 0 ≤ m) (h1 : m ≤ 1099511627776) :
    Calls Tryd.prog 20 #[v, .int .i64 m] w fun e w' => e = .returned (.int .i64 (m + 2 * n)) ∧ Below w.heap.size w w' := by
  obtain ⟨ad, cap, b, off, rfl, hm, had, hx⟩ := h.uni
  simp only [marksItem_len] at had hm hx ⊢
  simp only [marksItem_get] at hx
  go_enter Tryd.func20, Tryd.ntmps20
  go_wp2
  go_loopw [1, 5] (fun q i wr => ∃ k : Nat, k ≤ n ∧ i = .int .i64 k ∧ q = .int .i64 (m + 2 * k) ∧ Below w.heap.size w wr) (fun _ i _ => n - (intOf i).toNat)
  case atStart => exact ⟨0, Nat.zero_le _, rfl, by simp, by (repeat' (first | (with_reducible exact Below.refl _ _) | (with_reducible refine Below.alloc ?_ ?_ _) | (with_reducible refine Below.drew ?_) | (with_reducible refine below_drewN ?_ _) | (with_reducible refine Below.setCell ?_ ?_ _) | (with_reducible refine below_via ‹_› ?_ ?_) | (with_reducible refine below_grow ?_ ?_ _ _) | omega | (simp; done) | (simp; omega)))⟩
  case round =>
    obtain ⟨k, hk, rfl, rfl, hB⟩ := hrel
    have hzr := hB.size
    by_cases hlt : k < n
    · obtain ⟨rfl, hb0, -, hcap, hmc⟩ := had (by omega)
      have hlI : (k : Int) < n := by omega
      have hbr : b < wr.heap.size := by omega
      have g0 := below_cell hB hb0 (hx k hlt 0 (by omega))
      have g1 := below_cell hB hb0 (hx k hlt 1 (by omega))
      simp only [encItem, List.getD_cons_zero, List.getD_cons_succ, Nat.add_zero] at g0 g1
      have r0 := cellr g0
      have r1 := cellr g1
      clear hx had
      go_wp2
      have hs0 : ((mkB (m + 2 * (k : Int))).toList != (mkB (m + 2 * (k : Int))).toList) = false := by simp
      (refine wp_region_quiet_below (by kernel_rfl) (by kernel_rfl) ?_; (repeat (first | go_big_quiet_step ((first | (go_at_call 54; exact regrown_of (c_markText _ _ (by omega) (by omega))))) | quiet_step ((first | (go_at_call 54; exact regrown_of (c_markText _ _ (by omega) (by omega))))))); refine wpQuiet_nil ?_; intro w1 hw'; have hb := below_of_regrown hw'; clear hw'; obtain ⟨hc, hf⟩ := bcell hb; have hz := hb.size; (try simp at hz); (try have hz0 : ∀ b, b < w.heap.size → b < w1.heap.size := fun b h => by omega); (try have hz1 : w.heap.size < w1.heap.size := by omega); (try have hz2 : w.heap.size + 1 < w1.heap.size := by omega); (try have hz3 : w.heap.size + 2 < w1.heap.size := by omega))
      go_wp2
      have r1' := cellr (below_cell hb hbr g1)
      clear hc hf r0 r1
      have hs1 : ((mkB (m + 2 * (k : Int) + 1)).toList != (mkB (m + 2 * (k : Int) + 1)).toList) = false := by simp
      (refine wp_region_quiet_below (by kernel_rfl) (by kernel_rfl) ?_; (repeat (first | go_big_quiet_step ((first | (go_at_call 54; exact regrown_of (c_markText _ _ (by omega) (by omega))))) | quiet_step ((first | (go_at_call 54; exact regrown_of (c_markText _ _ (by omega) (by omega))))))); refine wpQuiet_nil ?_; intro w1 hw'; have hb := below_of_regrown hw'; clear hw'; obtain ⟨hc, hf⟩ := bcell hb; have hz := hb.size; (try simp at hz); (try have hz0 : ∀ b, b < w.heap.size → b < w1.heap.size := fun b h => by omega); (try have hz1 : w.heap.size < w1.heap.size := by omega); (try have hz2 : w.heap.size + 1 < w1.heap.size := by omega); (try have hz3 : w.heap.size + 2 < w1.heap.size := by omega))
      go_wp2
      go_roundw
      case rel => exact ⟨k + 1, by omega, by go_num, by go_num, by (repeat' (first | (with_reducible exact Below.refl _ _) | (with_reducible refine Below.alloc ?_ ?_ _) | (with_reducible refine Below.drew ?_) | (with_reducible refine below_drewN ?_ _) | (with_reducible refine Below.setCell ?_ ?_ _) | (with_reducible refine below_via ‹_› ?_ ?_) | (with_reducible refine below_grow ?_ ?_ _ _) | omega | (simp; done) | (simp; omega)))⟩
      case measure => simp [intOf]; omega
    · have e : k = n := by omega
      subst e
      go_wp2
      go_ret
      exact ⟨rfl, by (repeat' (first | (with_reducible exact Below.refl _ _) | (with_reducible refine Below.alloc ?_ ?_ _) | (with_reducible refine Below.drew ?_) | (with_reducible refine below_drewN ?_ _) | (with_reducible refine Below.setCell ?_ ?_ _) | (with_reducible refine below_via ‹_› ?_ ?_) | (with_reducible refine below_grow ?_ ?_ _ _) | omega | (simp; done) | (simp; omega)))⟩
end Go.Proofs.YtocpgnpdnoidnaaDoor
