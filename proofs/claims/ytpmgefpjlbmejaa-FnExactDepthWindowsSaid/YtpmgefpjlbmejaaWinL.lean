/- What the law on the windows calls: equality, marks and their holding, of rows of two numbers. -/
import Derived.Test.YtpmgefpjlbmejaaWinW
import Derived.Test.YtpmgefpjlbmejaaMarkI
namespace Go.Proofs.Ytpmgefpjlbmejaa
open Go.RowKit Go.Sort
set_option maxRecDepth 100000

theorem WinC.row {w : World} {lo : Nat} {v : Value} {gs : List Nat} {ps : List (Int × Int)} (h : WinC w lo v gs ps) (i : Nat) (hi : i < gs.length) (hi' : i < ps.length) : SlO w lo 1 encI (rowV gs[i]) [ps[i].1, ps[i].2] := by
  refine ⟨.inr ⟨gs[i], 0, 2, rfl, by simp, by simp, by unfold maxLen; omega, (h.lo i hi).1, (h.lo i hi).2, fun j hj q hq => ?_⟩, fun b hb => ?_⟩
  · have : q = 0 := by omega
    subst this
    have : j = 0 ∨ j = 1 := by simp at hj; omega
    rcases this with rfl | rfl
    · simpa [encI] using h.c0 i hi hi'
    · simpa [encI] using h.c1 i hi hi'
  · have e : gs[i] = b := by simpa [rowV, Value.ownBlock] using hb
    subst e
    exact ⟨(h.lo i hi).2, (h.lo i hi).1, h.fz i hi⟩
/-- one row is written over -/
theorem WinC.marked {w w' : World} {lo : Nat} {v : Value} {gs : List Nat} {ps : List (Int × Int)} {k : Nat} {x y : Int} (h : WinC w lo v gs ps) (hk : k < gs.length) (hk' : k < ps.length) (hg : w.grownBy w' (rowV gs[k]).ownBlock) (hS : SlO w' lo 1 encI (rowV gs[k]) [x, y]) : WinC w' lo v gs (ps.set k (x, y)) := by
  have hne : ∀ i, (hi : i < gs.length) → i ≠ k → gs[i] ≠ gs[k] := fun i hi hik e => by
    rcases Nat.lt_or_gt_of_ne hik with h1 | h1
    · have := h.up i k hi hk h1; omega
    · have := h.up k i hk hi h1; omega
  have hb : ∀ i, (hi : i < gs.length) → i ≠ k → w'.heap[gs[i]]? = w.heap[gs[i]]? := fun i hi hik => hg.block _ (h.lo i hi).2 (fun e => hne i hi hik (by simpa [rowV, Value.ownBlock] using e))
  obtain ⟨hc, hf⟩ := hS
  have hrow : ∀ j, (hj : j < 2) → w'.cell? ⟨gs[k], j, none⟩ = some (.int .i64 ([x, y][j])) := fun j hj => by
    rcases hc with ⟨_, _, _, e, _⟩ | ⟨b, off, cap, e, -, -, -, -, -, hx⟩
    · cases e
    · simp only [rowV, Value.slice.injEq, Option.some.injEq, Addr.mk.injEq] at e
      obtain ⟨⟨rfl, rfl, -⟩, -, -⟩ := e
      have := hx j (by simpa using hj) 0 (by omega)
      simpa [encI] using this
  refine ⟨by simp [h.len], h.up, fun i hi => ⟨(h.lo i hi).1, Nat.lt_of_lt_of_le (h.lo i hi).2 hg.size⟩, h.ne, fun i hi j => ?_, fun i hi hi' => ?_, fun i hi hi' => ?_⟩
  · by_cases e : i = k
    · subst e; exact (hf gs[i] rfl).2.2 j
    · rw [World.frozen?_of_block (a := ⟨gs[i], j, none⟩) (hb i hi e)]; exact h.fz i hi j
  · by_cases e : i = k
    · subst e; rw [List.getElem_set_self]; exact hrow 0 (by omega)
    · rw [World.cell?_of_block (a := ⟨gs[i], 0, none⟩) (hb i hi e), List.getElem_set_ne (fun e' => e e'.symm)]; exact h.c0 i hi (by simpa using hi')
  · by_cases e : i = k
    · subst e; rw [List.getElem_set_self]; exact hrow 1 (by omega)
    · rw [World.cell?_of_block (a := ⟨gs[i], 1, none⟩) (hb i hi e), List.getElem_set_ne (fun e' => e e'.symm)]; exact h.c1 i hi (by simpa using hi')
def mk2 (m : Int) (k : Nat) (ps : List (Int × Int)) : List (Int × Int) := (List.range ps.length).map fun i => if i < k then (m + 2 * i, m + 2 * i + 1) else ps.getD i (0, 0)
@[simp] theorem mk2_len (m : Int) (k : Nat) (ps : List (Int × Int)) : (mk2 m k ps).length = ps.length := by simp [mk2]
theorem mk2_zero (m : Int) (ps : List (Int × Int)) : mk2 m 0 ps = ps := by
  apply List.ext_getElem (by simp)
  intro i h1 h2
  simp [mk2, List.getD_eq_getElem?_getD, h2]
theorem mk2_succ (m : Int) (k : Nat) (ps : List (Int × Int)) : (mk2 m k ps).set k (m + 2 * k, m + 2 * k + 1) = mk2 m (k + 1) ps := by
  apply List.ext_getElem (by simp)
  intro i h1 h2
  have h3 : i < ps.length := by simpa using h2
  by_cases e : i = k
  · subst e; simp [mk2]
  · rw [List.getElem_set_ne (fun e' => e e'.symm)]
    simp only [mk2, List.getElem_map, List.getElem_range]
    by_cases hl : i < k
    · simp [hl, show i < k + 1 by omega]
    · simp [hl, show ¬ i < k + 1 by omega]
theorem mk2_get {m : Int} {k i : Nat} {ps : List (Int × Int)} (h : i < (mk2 m k ps).length) (hk : i < k) : (mk2 m k ps)[i] = (m + 2 * i, m + 2 * i + 1) := by simp [mk2, hk]
theorem marks_two (m : Int) : marks m 2 = [m, m + 1] := by simp [marks, List.range_succ]
set_option maxHeartbeats 400000 in
theorem c_eqInt64SS (v v' : Value) (gs gs' : List Nat) (ps : List (Int × Int)) (lo lo' : Nat) (w : World) (h : SlA w 0 1 encG v gs) (hW : WinC w lo v gs ps) (h' : SlA w 0 1 encG v' gs') (hW' : WinC w lo' v' gs' ps) :
    Calls Try.prog 36 #[v, v'] w fun e w' => e = .returned (.bool true) ∧ Below w.heap.size w w' := by
  obtain ⟨ad, cap, b, off, rfl, hm, had, hx⟩ := h.uni
  obtain ⟨ad', cap', b', off', rfl, hm', had', hx'⟩ := h'.uni
  have hl : gs.length = gs'.length := by rw [hW.len, hW'.len]
  have hlB : ((gs.length : Int) != (gs'.length : Int)) = false := by simp [hl]
  have HL := hid hl
  clear hl
  have HW := hid hW
  have HW' := hid hW'
  go_enter Try.func36, Try.ntmps36
  go_wp2
  go_loopw [5] (fun i wr => ∃ k : Nat, k ≤ gs.length ∧ i = .int .i64 k ∧ Below w.heap.size w wr) (fun i _ => gs.length - (intOf i).toNat)
  case atStart => exact ⟨0, Nat.zero_le _, rfl, by (repeat' (first | (with_reducible exact Below.refl _ _) | (with_reducible refine Below.alloc ?_ ?_ _) | (with_reducible refine Below.drew ?_) | (with_reducible refine below_drewN ?_ _) | (with_reducible refine Below.setCell ?_ ?_ _) | (with_reducible refine below_via ‹_› ?_ ?_) | (with_reducible refine below_grow ?_ ?_ _ _) | omega | (simp; done) | (simp; omega)))⟩
  case round =>
    obtain ⟨k, hk, rfl, hB⟩ := hrel
    have hz := hB.size
    by_cases hlt : k < gs.length
    · have hlI : (k : Int) < gs.length := by omega
      have hlt' : k < gs'.length := by have := HL.out; omega
      have hlI' : (k : Int) < gs'.length := by omega
      obtain ⟨rfl, hbb, -, hcc, hmc⟩ := had (by omega)
      obtain ⟨rfl, hbb', -, hcc', hmc'⟩ := had' (by omega)
      have g0 := (hB.cell (p := ⟨b, off + k * 1 + 0, none⟩) hbb).trans (hx k hlt 0 (by omega))
      have g1 := (hB.cell (p := ⟨b', off' + k * 1 + 0, none⟩) hbb').trans (hx' k hlt' 0 (by omega))
      simp only [encG, List.getD_cons_zero, Nat.add_zero, Nat.mul_one] at g0 g1
      have hkp : k < ps.length := by have := HW.out.len; omega
      have R0 := ((HW.out.below hB).row k hlt hkp).1
      have R1 := ((HW'.out.below hB).row k hlt' hkp).1
      clear hx hx' had had'
      go_wp2
      go_still_tail 8, (by kernel_rfl)
      change wpList _ _ _ _ _ wr.drew
      generalize hwd : wr.drew = wd
      have hBd : Below w.heap.size w wd := hwd ▸ hB.drew
      have hBr : Below wr.heap.size wr wd := hwd ▸ (Below.refl _ _).drew
      have hzd := hBd.size
      have R0' := R0.below hBr (Nat.le_refl _)
      have R1' := R1.below hBr (Nat.le_refl _)
      clear hwd
      go_wp2_with (go_at_call 15; refine (c_eqInt64S _ _ _ _ _ _ R0' R1').mono ?_; rintro e w1 ⟨rfl, hb⟩; obtain ⟨hc, hf⟩ := bcell hb; have hz := hb.size; (try simp at hz); (try have hz0 : ∀ b, b < w.heap.size → b < w1.heap.size := fun b h => by omega); (try have hz1 : w.heap.size < w1.heap.size := by omega); (try have hz2 : w.heap.size + 1 < w1.heap.size := by omega); (try have hz3 : w.heap.size + 2 < w1.heap.size := by omega))
      go_roundw
      case rel => exact ⟨k + 1, by omega, by go_num, by (repeat' (first | (with_reducible exact Below.refl _ _) | (with_reducible refine Below.alloc ?_ ?_ _) | (with_reducible refine Below.drew ?_) | (with_reducible refine below_drewN ?_ _) | (with_reducible refine Below.setCell ?_ ?_ _) | (with_reducible refine below_via ‹_› ?_ ?_) | (with_reducible refine below_grow ?_ ?_ _ _) | omega | (simp; done) | (simp; omega)))⟩
      case measure => simp [intOf]; omega
    · go_wp2
      go_ret
      exact ⟨rfl, by (repeat' (first | (with_reducible exact Below.refl _ _) | (with_reducible refine Below.alloc ?_ ?_ _) | (with_reducible refine Below.drew ?_) | (with_reducible refine below_drewN ?_ _) | (with_reducible refine Below.setCell ?_ ?_ _) | (with_reducible refine below_via ‹_› ?_ ?_) | (with_reducible refine below_grow ?_ ?_ _ _) | omega | (simp; done) | (simp; omega)))⟩
set_option maxHeartbeats 400000 in
theorem c_heldInt64SS (v : Value) (gs : List Nat) (ps : List (Int × Int)) (m : Int) (lo : Nat) (w : World) (h : SlA w 0 1 encG v gs) (hW : WinC w lo v gs (mk2 m ps.length ps)) (hl : ps.length ≤ 144000000) (h0 : 0 ≤ m) (h1 : m ≤ 4294967296) :
    Calls Try.prog 38 #[v, .int .i64 m] w fun e w' => e = .returned (.int .i64 (m + 2 * ps.length)) ∧ Below w.heap.size w w' := by
  obtain ⟨ad, cap, b, off, rfl, hm, had, hx⟩ := h.uni
  have hlen : gs.length = ps.length := by have := hW.len; simpa using this
  have HL := hid hlen
  have hgm : gs.length ≤ 144000000 := by omega
  clear hlen
  have HW := hid hW
  go_enter Try.func38, Try.ntmps38
  go_wp2
  go_loopw [1, 5] (fun q i wr => ∃ k : Nat, k ≤ gs.length ∧ i = .int .i64 k ∧ q = .int .i64 (m + 2 * k) ∧ Below w.heap.size w wr) (fun _ i _ => gs.length - (intOf i).toNat)
  case atStart => exact ⟨0, Nat.zero_le _, rfl, by simp, by (repeat' (first | (with_reducible exact Below.refl _ _) | (with_reducible refine Below.alloc ?_ ?_ _) | (with_reducible refine Below.drew ?_) | (with_reducible refine below_drewN ?_ _) | (with_reducible refine Below.setCell ?_ ?_ _) | (with_reducible refine below_via ‹_› ?_ ?_) | (with_reducible refine below_grow ?_ ?_ _ _) | omega | (simp; done) | (simp; omega)))⟩
  case round =>
    obtain ⟨k, hk, rfl, rfl, hB⟩ := hrel
    have hz := hB.size
    by_cases hlt : k < gs.length
    · have hlI : (k : Int) < gs.length := by omega
      obtain ⟨rfl, hbb, -, hcc, hmc⟩ := had (by omega)
      have g0 := (hB.cell (p := ⟨b, off + k * 1 + 0, none⟩) hbb).trans (hx k hlt 0 (by omega))
      simp only [encG, List.getD_cons_zero, Nat.add_zero, Nat.mul_one, rowV] at g0
      have hkp : k < (mk2 m ps.length ps).length := by have := HW.out.len; omega
      have R0 := ((HW.out.below hB).row k hlt hkp).1
      rw [mk2_get hkp (by simpa using hkp), ← marks_two] at R0
      have hk2 : m + 2 * (k : Int) + (2 : Nat) = m + 2 * ((k + 1 : Nat) : Int) := by omega
      have HK := hid hk2
      clear hx had hk2
      go_wp2_with (go_at_call 19; refine (c_heldInt64S _ 2 (m + 2 * k) _ _ R0 (by omega) (by omega) (by omega)).mono ?_; rintro e w1 ⟨rfl, hb⟩; obtain ⟨hc, hf⟩ := bcell hb; have hz := hb.size; (try simp at hz); (try have hz0 : ∀ b, b < w.heap.size → b < w1.heap.size := fun b h => by omega); (try have hz1 : w.heap.size < w1.heap.size := by omega); (try have hz2 : w.heap.size + 1 < w1.heap.size := by omega); (try have hz3 : w.heap.size + 2 < w1.heap.size := by omega))
      go_roundw
      case rel => exact ⟨k + 1, by omega, by go_num, by rw [← HK.out]; rfl, by (repeat' (first | (with_reducible exact Below.refl _ _) | (with_reducible refine Below.alloc ?_ ?_ _) | (with_reducible refine Below.drew ?_) | (with_reducible refine below_drewN ?_ _) | (with_reducible refine Below.setCell ?_ ?_ _) | (with_reducible refine below_via ‹_› ?_ ?_) | (with_reducible refine below_grow ?_ ?_ _ _) | omega | (simp; done) | (simp; omega)))⟩
      case measure => simp [intOf]; omega
    · have e : k = gs.length := by omega
      subst e
      go_wp2
      go_ret
      exact ⟨ret_int (by rw [HL.out]), by (repeat' (first | (with_reducible exact Below.refl _ _) | (with_reducible refine Below.alloc ?_ ?_ _) | (with_reducible refine Below.drew ?_) | (with_reducible refine below_drewN ?_ _) | (with_reducible refine Below.setCell ?_ ?_ _) | (with_reducible refine below_via ‹_› ?_ ?_) | (with_reducible refine below_grow ?_ ?_ _ _) | omega | (simp; done) | (simp; omega)))⟩
set_option maxHeartbeats 400000 in
theorem c_markInt64SS (v : Value) (gs : List Nat) (ps : List (Int × Int)) (m : Int) (lo : Nat) (w : World) (h : SlO w lo 1 encG v gs) (hW : WinC w lo v gs ps) (hl : ps.length ≤ 144000000) (h0 : 0 ≤ m) (h1 : m ≤ 4294967296) :
    Calls Try.prog 37 #[v, .int .i64 m] w fun e w' => e = .returned (.int .i64 (m + 2 * ps.length)) ∧ Below lo w w' ∧ SlO w' lo 1 encG v gs ∧ WinC w' lo v gs (mk2 m ps.length ps) := by
  obtain ⟨ad, cap, b, off, rfl, hm, -, -⟩ := h.1.uni
  have hlen : gs.length = ps.length := hW.len
  have HL := hid hlen
  have hgm : gs.length ≤ 144000000 := by omega
  clear hlen
  have hW0 : WinC w lo (.slice ad gs.length cap) gs (mk2 m 0 ps) := by rw [mk2_zero]; exact hW
  have hlo : gs.length = 0 ∨ lo ≤ w.heap.size := by
    by_cases e : gs.length = 0
    · exact .inl e
    · exact .inr (by have := hW.lo 0 (by omega); omega)
  have HH := hid h
  clear hW h
  go_enter Try.func37, Try.ntmps37
  go_wp2
  go_loopw [1, 5] (fun q i wr => ∃ k : Nat, k ≤ gs.length ∧ i = .int .i64 k ∧ q = .int .i64 (m + 2 * k) ∧ Below lo w wr ∧ w.heap.size ≤ wr.heap.size ∧ SlO wr lo 1 encG (.slice ad gs.length cap) gs ∧ WinC wr lo (.slice ad gs.length cap) gs (mk2 m k ps)) (fun _ i _ => gs.length - (intOf i).toNat)
  case atStart => exact ⟨0, Nat.zero_le _, rfl, by simp, Below.refl _ _, Nat.le_refl _, HH.out, hW0⟩
  case round =>
    clear hW0
    obtain ⟨k, hk, rfl, rfl, hB, hz, hS, hW⟩ := hrel
    have HS := hid hS
    have HW := hid hW
    have HB := hid hB
    obtain ⟨_, _, b2, off2, e2, -, had, hx⟩ := hS.1.uni
    simp only [Value.slice.injEq] at e2
    obtain ⟨rfl, -, rfl⟩ := e2
    clear hS hW hB
    by_cases hlt : k < gs.length
    · have hlI : (k : Int) < gs.length := by omega
      obtain ⟨e3, hbb, hlb, hcc, hmc⟩ := had (by omega)
      have g0 := hx k hlt 0 (by omega)
      simp only [encG, List.getD_cons_zero, Nat.add_zero, Nat.mul_one, rowV] at g0
      have hkp : k < (mk2 m k ps).length := by have := HW.out.len; omega
      have R0 := HW.out.row k hlt hkp
      have HK := hid (show m + 2 * (k : Int) + (2 : Nat) = m + 2 * ((k + 1 : Nat) : Int) by omega)
      have hlo2 : lo ≤ wr.heap.size := by omega
      clear hx had
      subst e3
      go_wp2_with (go_at_call 18; refine (c_markInt64S _ _ (m + 2 * k) _ _ R0 (by simp) (by omega) (by omega)).mono ?_; rintro e w1 ⟨rfl, hg1, hS1⟩)
      go_roundw
      case rel =>
        have hb1 : Below lo w w1 := HB.out.grown hg1 hlo2 (fun q hq => by simp [rowV, Value.ownBlock] at hq; have := (HW.out.lo k hlt).1; omega)
        simp only [List.length_cons, List.length_nil, Nat.zero_add] at hS1
        rw [marks_two] at hS1
        refine ⟨k + 1, by omega, by go_num, by rw [← HK.out]; simp, hb1, Nat.le_trans hz hg1.size, HS.out.grown hg1 (fun q hq e => ?_), ?_⟩
        · have := HW.out.ne k hlt; rw [hq] at this; exact this (by rw [e]; rfl)
        · rw [← mk2_succ]; exact HW.out.marked hlt hkp hg1 hS1
      case measure => simp [intOf]; omega
    · have e : k = gs.length := by omega
      subst e
      have HWf := HW.out
      rw [HL.out] at HWf
      clear hx had
      go_wp2
      go_ret
      exact ⟨ret_int (by rw [HL.out]), HB.out, HS.out, by rw [← HL.out] at HWf ⊢; exact HW.out⟩
theorem dwP_len (a b : Int) (xs : List Int) (d nd t z : Int) : (dwP a b xs d nd t z).length ≤ 144000000 := by
  unfold dwP
  split
  · rename_i h
    simp only [Bool.and_eq_true, dwG] at h
    obtain ⟨h1, h2, h3⟩ := lwG_true h.2.2.2
    obtain ⟨-, -, -, -, -, e5, -, -, e8⟩ := tideB_true h.1
    have := inB_true h1; have := inB_true h2
    have := winF_len (deepB a b xs d nd) t (dwN t z)
    unfold dwN at this ⊢; omega
  · simp
end Go.Proofs.Ytpmgefpjlbmejaa
