/- Slices of numbers: copy, size, equality. -/
import Derived.Test.YtjibilibdjfdcaaSl
import Derived.StillTailTactics
namespace Go.Proofs.Ytjibilibdjfdcaa
open Go.RowKit
set_option maxRecDepth 100000

theorem rds_Int64 {w : World} {cs : List Value} (h : Rds Try.prog w 2 cs) : ∃ x : Int, cs = encI x ∧ I64 x := by
  obtain ⟨x, e, hx⟩ := Rds.int Try.underlying2 h
  exact ⟨x, e, i64_of hx⟩
theorem open_Int64 {H : Type} {enc : TypeId × Value → H} {W : World} {base : Nat} {v : Value} {d : DataW H} {p : List MemPlace} (hv : Value.okWide Try.prog W .any base 2 v) (h : DataW.Trod enc Try.prog W 0 (fun _ => true) true 2 v d p) :
    ∃ x : Int, v = .int .i64 x ∧ I64 x := by
  obtain ⟨x, rfl, -, -, hx⟩ := ChangeShapes.open_int Try.underlying2 hv h
  exact ⟨x, rfl, i64_of hx⟩
theorem open_String {H : Type} {enc : TypeId × Value → H} {W : World} {base : Nat} {v : Value} {d : DataW H} {p : List MemPlace} (hv : Value.okWide Try.prog W .any base 9 v) (h : DataW.Trod enc Try.prog W 0 (fun _ => true) true 9 v d p) :
    ∃ s : ByteArray, v = .string s ∧ s.size ≤ maxLen := by
  obtain ⟨s, rfl, -, -, hs⟩ := ChangeMaps.open_string Try.underlying9 hv h
  exact ⟨s, rfl, hs⟩
theorem open_Int64S {H : Type} {enc : TypeId × Value → H} {W : World} {base : Nat} {v : Value} {d : DataW H} {p : List MemPlace} (hv : Value.okWide Try.prog W .any base 34 v) (h : DataW.Trod enc Try.prog W 0 (fun _ => true) true 34 v d p) :
    ∃ xs : List Int, SlA W 0 1 encI v xs ∧ ∀ x ∈ xs, I64 x := by
  obtain ⟨a, len, cap, rfl⟩ := WideShapes.okWide_slice Try.underlying34 hv
  exact SlA.of_rds Try.underlying34 cells_int64 (by omega) (fun es h => rds_Int64 h) (rds_arg h)
theorem c_szInt64S (v : Value) (xs : List Int) (n : Int) (w : World) (h : SlA w 0 1 encI v xs) (h0 : -1 ≤ n) (h1 : n ≤ 1048576) :
    Calls Try.prog 53 #[v, .int .i64 n] w fun e w' => e = .returned (.int .i64 (szV n xs.length)) ∧ Below w.heap.size w w' := by
  rcases h with ⟨a, cap, rfl, rfl, hcap⟩ | ⟨b, off, cap, rfl, hp, hc, hm, _, hb, hx⟩
  · go_enter Try.func53, Try.ntmps53
    go_wp2
    all_goals (go_ret; go_light; exact ⟨ret_int (by unfold szV; simp; omega), by (repeat' (first | (with_reducible exact Below.refl _ _) | (with_reducible refine Below.alloc ?_ ?_ _) | (with_reducible refine Below.drew ?_) | (with_reducible refine below_drewN ?_ _) | (with_reducible refine Below.setCell ?_ ?_ _) | (with_reducible refine below_via ‹_› ?_ ?_) | (with_reducible refine below_grow ?_ ?_ _ _) | omega | (simp; done) | (simp; omega)))⟩)
  · unfold maxLen at hm
    go_enter Try.func53, Try.ntmps53
    go_wp2
    all_goals (go_ret; go_light; exact ⟨ret_int (by unfold szV; split <;> omega), by (repeat' (first | (with_reducible exact Below.refl _ _) | (with_reducible refine Below.alloc ?_ ?_ _) | (with_reducible refine Below.drew ?_) | (with_reducible refine below_drewN ?_ _) | (with_reducible refine Below.setCell ?_ ?_ _) | (with_reducible refine below_via ‹_› ?_ ?_) | (with_reducible refine below_grow ?_ ?_ _ _) | omega | (simp; done) | (simp; omega)))⟩)
theorem info_Int64 : (Try.prog.info? 2).map (fun i => (i.zero, i.size, i.bytes)) = some (some (.int .i64 0), 1, 8) := by kernel_rfl
set_option maxHeartbeats 400000 in
theorem c_toInt64S (v : Value) (xs : List Int) (w : World) (h : SlA w 0 1 encI v xs) (hl : xs.length ≤ 1048576) :
    Calls Try.prog 56 #[v] w fun e w' => ∃ g, e = .returned (.slice (some ⟨g, 0, none⟩) xs.length xs.length) ∧ Below w.heap.size w w' ∧ SlO w' w.heap.size 1 encI (.slice (some ⟨g, 0, none⟩) xs.length xs.length) xs := by
  obtain ⟨i0, hi, hz0, hz1, hz2⟩ := info_parts info_Int64
  rcases h with ⟨a, cap, rfl, rfl, hcap⟩ | ⟨b, off, cap, rfl, hp, hc, hm, _, hb, hx⟩
  · go_enter Try.func56, Try.ntmps56
    go_wp2_with (at_make; refine wpList_make_full _ rfl _ _ 34 rfl w.heap.size 2 i0 _ 1 Try.underlying34 hi hz0 hz1 _ _ _ _ 0 rfl rfl rfl rfl (by rw [hz2]; omega) (by unfold maxLen; omega) (Nat.le_refl _) ?_)
    intro w1 hown hgr
    have hB0 : Below w.heap.size w w1 := (Below.refl _ _).grown hgr (Nat.le_refl _) (fun k hk => by cases hk)
    have hP0 := PartC.made (cs := ([] : List Int).flatMap encI) hown rfl
    clear hown hgr
    go_wp2
    refine wp_loop_rounds 1 ?_
    rw [rounds_succ]
    go_wp2
    go_ret
    exact ⟨_, rfl, hB0, hP0.own (xs := []) (n := 1) (fun _ => rfl) (Nat.le_refl _) (Nat.le_refl _) (Nat.zero_le _)⟩
  · unfold maxLen at hm
    go_enter Try.func56, Try.ntmps56
    go_wp2_with (at_make; refine wpList_make_full _ rfl _ _ 34 rfl w.heap.size 2 i0 _ 1 Try.underlying34 hi hz0 hz1 _ _ _ _ xs.length rfl rfl rfl rfl (by rw [hz2]; omega) (by unfold maxLen; omega) (Nat.le_refl _) ?_)
    intro w1 hown hgr
    have hP0 := PartC.made (cs := xs.flatMap encI) hown (flat_len encI (fun _ => rfl) xs)
    have hB0 : Below w.heap.size w w1 := (Below.refl _ _).grown hgr (Nat.le_refl _) (fun k hk => by cases hk)
    have hfl := hid (flat_len (n := 1) encI (fun _ => rfl) xs)
    clear hown hgr
    go_wp2
    go_loopw [4] (fun i wr => ∃ k : Nat, k ≤ xs.length ∧ i = .int .i64 k ∧ Below w.heap.size w wr ∧ PartC wr w.heap.size (xs.flatMap encI) k) (fun i _ => xs.length - (intOf i).toNat)
    case atStart => exact ⟨0, Nat.zero_le _, rfl, hB0, by simpa using hP0⟩
    case round =>
      clear hP0 hB0
      obtain ⟨k, hk, rfl, hB, hP⟩ := hrel
      by_cases hlt : k < xs.length
      · have hzr := hP.1
        have hlI : (k : Int) < xs.length := by omega
        obtain ⟨hc0, hf0⟩ := bcell hB
        have g0 := (hc0 b _ hb).trans (hx k hlt 0 (by omega))
        obtain ⟨u0, hu0⟩ := hP.2.2.2.1 k (by rw [hfl.out]; omega)
        have hfz := hP.2.2.1 k
        have hP' := hid hP
        simp only [encI, List.getD_cons_zero, Nat.add_zero, Nat.mul_one] at g0
        clear hc0 hf0 hx hP
        go_wp2
        go_roundw
        case rel =>
          have F := (flat_get (n := 1) encI (fun _ => rfl) xs k hlt 0 (by omega)).symm
          simp only [Nat.mul_one, Nat.add_zero] at F
          exact ⟨k + 1, by omega, by go_num, by (repeat' (first | (with_reducible exact Below.refl _ _) | (with_reducible refine Below.alloc ?_ ?_ _) | (with_reducible refine Below.drew ?_) | (with_reducible refine below_drewN ?_ _) | (with_reducible refine Below.setCell ?_ ?_ _) | (with_reducible refine below_via ‹_› ?_ ?_) | (with_reducible refine below_grow ?_ ?_ _ _) | omega | (simp; done) | (simp; omega))), hP'.out.set (by rw [hfl.out]; omega) F rfl⟩
        case measure => simp [intOf]; omega
      · have e : k = xs.length := by omega
        subst e
        go_wp2
        go_ret
        exact ⟨_, rfl, hB, PartC.own (xs := xs) (n := 1) (fun _ => rfl) (by simpa using hP) (Nat.le_refl _) (Nat.le_refl _) (by unfold maxLen; omega)⟩
set_option maxHeartbeats 400000 in
theorem c_eqInt64S (v v' : Value) (lo lo' : Nat) (xs : List Int) (w : World) (h : SlA w lo 1 encI v xs) (h' : SlA w lo' 1 encI v' xs) :
    Calls Try.prog 14 #[v, v'] w fun e w' => e = .returned (.bool true) ∧ Below w.heap.size w w' := by
  rcases h with ⟨a, cap, rfl, rfl, hcap⟩ | ⟨b, off, cap, rfl, hp, hc, hm, _, hb, hx⟩
  · rcases h' with ⟨a', cap', rfl, _, hcap'⟩ | ⟨b', off', cap', rfl, hp', hc', hm', _, hb', hx'⟩
    · go_enter Try.func14, Try.ntmps14
      go_wp2
      refine wp_loop_rounds 1 ?_
      rw [rounds_succ]
      go_wp2
      go_ret
      exact ⟨rfl, by (repeat' (first | (with_reducible exact Below.refl _ _) | (with_reducible refine Below.alloc ?_ ?_ _) | (with_reducible refine Below.drew ?_) | (with_reducible refine below_drewN ?_ _) | (with_reducible refine Below.setCell ?_ ?_ _) | (with_reducible refine below_via ‹_› ?_ ?_) | (with_reducible refine below_grow ?_ ?_ _ _) | omega | (simp; done) | (simp; omega)))⟩
    · simp at hp'
  · rcases h' with ⟨a', cap', rfl, e', hcap'⟩ | ⟨b', off', cap', rfl, hp', hc', hm', _, hb', hx'⟩
    · subst e'; simp at hp
    · unfold maxLen at hm hm'
      go_enter Try.func14, Try.ntmps14
      go_wp2
      go_loopw [5] (fun i wr => ∃ k : Nat, k ≤ xs.length ∧ i = .int .i64 k ∧ Below w.heap.size w wr) (fun i _ => xs.length - (intOf i).toNat)
      case atStart => exact ⟨0, Nat.zero_le _, rfl, by (repeat' (first | (with_reducible exact Below.refl _ _) | (with_reducible refine Below.alloc ?_ ?_ _) | (with_reducible refine Below.drew ?_) | (with_reducible refine below_drewN ?_ _) | (with_reducible refine Below.setCell ?_ ?_ _) | (with_reducible refine below_via ‹_› ?_ ?_) | (with_reducible refine below_grow ?_ ?_ _ _) | omega | (simp; done) | (simp; omega)))⟩
      case round =>
        obtain ⟨k, hk, rfl, hB⟩ := hrel
        obtain ⟨hc0, hf0⟩ := bcell hB
        by_cases hlt : k < xs.length
        · have hlI : (k : Int) < xs.length := by omega
          have g0 := (hc0 b _ hb).trans (hx k hlt 0 (by omega))
          have k0 := (hc0 b' _ hb').trans (hx' k hlt 0 (by omega))
          simp only [encI, List.getD_cons_zero, Nat.add_zero, Nat.mul_one] at g0 k0
          clear hc0 hf0 hx hx'
          go_wp2
          go_quiet (fail)
          go_wp2
          go_roundw
          case rel => exact ⟨k + 1, by omega, by go_num, by (repeat' (first | (with_reducible exact Below.refl _ _) | (with_reducible refine Below.alloc ?_ ?_ _) | (with_reducible refine Below.drew ?_) | (with_reducible refine below_drewN ?_ _) | (with_reducible refine Below.setCell ?_ ?_ _) | (with_reducible refine below_via ‹_› ?_ ?_) | (with_reducible refine below_grow ?_ ?_ _ _) | omega | (simp; done) | (simp; omega)))⟩
          case measure => simp [intOf]; omega
        · go_wp2
          go_ret
          exact ⟨rfl, by (repeat' (first | (with_reducible exact Below.refl _ _) | (with_reducible refine Below.alloc ?_ ?_ _) | (with_reducible refine Below.drew ?_) | (with_reducible refine below_drewN ?_ _) | (with_reducible refine Below.setCell ?_ ?_ _) | (with_reducible refine below_via ‹_› ?_ ?_) | (with_reducible refine below_grow ?_ ?_ _ _) | omega | (simp; done) | (simp; omega)))⟩
end Go.Proofs.Ytjibilibdjfdcaa
