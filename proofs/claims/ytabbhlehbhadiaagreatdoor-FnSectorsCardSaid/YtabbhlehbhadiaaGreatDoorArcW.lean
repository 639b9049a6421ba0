/- The fewest arcs of a circle: the walks of both sides. -/
import Derived.Test.YtabbhlehbhadiaaGreatDoorPaint
import Derived.Test.YtabbhlehbhadiaaGreatDoorKSector
namespace Go.Proofs.YtabbhlehbhadiaaGreatDoor
open Go.RowKit Go.Sort
set_option maxRecDepth 100000

/-- one cell of the last element of a list of the call's own is written over -/
theorem Acc.setLast {α : Type} {W w : World} {g0 n : Nat} {e : TypeId} {enc : α → List Value} {v u : Value} {l : List α} {s s' : α} {i : Nat} (h : Acc W g0 e n enc w v (l ++ [s])) (hn : ∀ x, (enc x).length = n) (hi : i < n) (hs : enc s' = (enc s).set i u) :
    ∃ g cap, v = .slice (some ⟨g, 0, none⟩) (l.length + 1) cap ∧ l.length + 1 ≤ cap ∧ cap ≤ 9223372036854775807 ∧ g < w.heap.size ∧ g0 ≤ g ∧ (g = g0 ∨ W.heap.size ≤ g) ∧ (∃ x, w.cell? ⟨g, l.length * n + i, none⟩ = some x) ∧ (∀ j, w.frozen? ⟨g, j, none⟩ = false) ∧
      (∀ j, j < n → w.cell? ⟨g, l.length * n + j, none⟩ = some ((enc s).getD j undef)) ∧
      Acc W g0 e n enc (w.setCell ⟨g, l.length * n + i, none⟩ u) v (l ++ [s']) := by
  obtain ⟨⟨h0, h1⟩, h2, h3, h4⟩ := h
  have hfl : (l.flatMap enc).length = l.length * n := flat_len enc hn l
  simp only [List.length_append, List.length_singleton] at h0 h1
  rcases h1 with ⟨_, h1⟩ | ⟨g, cap, cur, rfl, hg, hh, hc, hm, hsz, ht⟩
  · omega
  · unfold maxLen at hm
    have hlt := (Array.getElem?_eq_some_iff.1 hh).1
    have hmul : (l.length + 1) * n ≤ cap * n := Nat.mul_le_mul_right n hc
    have hadd : (l.length + 1) * n = l.length * n + n := by rw [Nat.add_mul, Nat.one_mul]
    have hidx : l.length * n + i < cur.size := by omega
    have hcell : ∀ j, j < n → w.cell? ⟨g, l.length * n + j, none⟩ = some ((enc s).getD j undef) := fun j hj => by
      have hj2 : l.length * n + j < cur.size := by omega
      rw [cell_of_row w g _ cur e _ hh, Array.getElem?_eq_getElem hj2]
      congr 1
      have : (cur.toList.take ((l.length + 1) * n))[l.length * n + j]? = ((l ++ [s]).flatMap enc)[l.length * n + j]? := by rw [ht]
      rw [List.getElem?_take_of_lt (by omega), List.flatMap_append, List.getElem?_append_right (by omega), hfl] at this
      simp only [List.flatMap_cons, List.flatMap_nil, List.append_nil, Nat.add_sub_cancel_left] at this
      rw [Array.getElem?_toList, Array.getElem?_eq_getElem hj2] at this
      simp [List.getD_eq_getElem?_getD, ← this]
    refine ⟨g, cap, rfl, hc, hm, hlt, hg, h3 g rfl, ⟨_, hcell i hi⟩, fun j => frozen_of_row w g j cur e hh, hcell, ?_⟩
    refine ⟨⟨by simp only [List.length_append, List.length_singleton, List.flatMap_append, List.flatMap_cons, List.flatMap_nil, List.append_nil, hfl, hn]; omega, .inr ⟨g, cap, cur.setIfInBounds (l.length * n + i) u, by simp, hg, ?_, by simpa using hc, by unfold maxLen; exact hm, by simpa using hsz, ?_⟩⟩, ?_, h3, h4⟩
    · exact heap_setCell_same w g _ cur e u hh
    · simp only [List.length_append, List.length_singleton, Array.toList_setIfInBounds]
      rw [List.take_set, ht, List.flatMap_append, List.flatMap_append, List.set_append_right _ _ (by omega), hfl]
      simp [hs]
    · refine ⟨h2.os, h2.tape, h2.output, by rw [size_set]; exact h2.size, fun k hk hne => ?_⟩
      rw [heap_setCell_other]
      · exact h2.block k hk hne
      · intro e
        have e' : k = g := e
        rcases h3 g rfl with e2 | e2
        · exact hne (by rw [e', e2])
        · omega
theorem Acc.rowC {α : Type} {W w : World} {g0 g n : Nat} {e : TypeId} {enc : α → List Value} {v : Value} {xs : List α} {c : Circ} (h : Acc W g0 e n enc w v xs) (hR : RowC W g c) (hne : g ≠ g0) : RowC w g c := hR.grown h.fr (fun e => hne (by injection e with e; exact e.symm))
theorem info_Sec : (Tryz.prog.info? 45).map (fun i => (i.zero, i.size, i.bytes)) = some (some (.agg #[.int .i64 0, .int .i64 0, .string ⟨#[]⟩]), 3, 32) := by kernel_rfl
theorem one_encSector (y : SectorD) : ∀ u ∈ encSector y, u.oneCell' = true := by intro u hu; simp only [encSector, List.mem_cons, List.not_mem_nil, or_false] at hu; rcases hu with rfl | rfl | rfl <;> rfl
theorem stB_ne {c : Circ} {d q : Int} (hq : (d + 359) % 360 = q) : stB c d = ((c d).toList != (c q).toList) := by
  rw [stB, hq, Bool.eq_iff_iff]
  simp only [Bool.not_eq_true', decide_eq_false_iff_not, bne_iff_ne, ne_eq]
  constructor
  · intro h e; exact h (by cases hc : c d; cases hd : c q; rw [hc, hd] at e; simpa [ByteArray.toList_eq] using e)
  · intro h e; exact h (by rw [e])
theorem arcsP_f {c : Circ} {n : Nat} (h : stB c n = false) : arcsP c (n + 1) = arcsP c n := by rw [arcsP, h]; rfl
theorem arcsP_t0 {c : Circ} {n : Nat} (h : stB c n = true) (h0 : arcsP c n = []) : arcsP c (n + 1) = [⟨n, 0, c n⟩] := by rw [arcsP, h, h0]; rfl
theorem arcsP_t1 {c : Circ} {n : Nat} (h : stB c n = true) {l : List SectorD} {s : SectorD} (h0 : arcsP c n = l ++ [s]) : arcsP c (n + 1) = l ++ [⟨s.fFrom, n, s.fColor⟩] ++ [⟨n, 0, c n⟩] := by rw [arcsP, h, h0, setTo_snoc]; rfl
theorem arcsF_nil {c : Circ} (h : arcsP c 360 = []) : arcsF c = [⟨0, 0, c 0⟩] := by rw [arcsF, h]
theorem arcsF_pos {c : Circ} {l : List SectorD} {s : SectorD} (h : arcsP c 360 = l ++ [s]) (hp : 0 < (l ++ [s]).length) : arcsF c = l ++ [⟨s.fFrom, (l ++ [s])[0].fFrom, s.fColor⟩] := by
  rw [arcsF, h]
  cases l with
  | nil => rfl
  | cons x l => simp only [List.cons_append, List.getElem_cons_zero]; rw [← List.cons_append, setTo_snoc]; rfl
set_option maxHeartbeats 4000000 in
theorem c_arcs (c : Circ) (w : World) :
    Calls Tryz.prog 60 #[.agg (circA c)] w fun e w' => ∃ u, e = .returned u ∧ Below w.heap.size w w' ∧ SlO w' w.heap.size 3 encSector u (arcsF c) := by
  obtain ⟨i0, hi, iz0, iz1, iz2⟩ := info_parts info_Sec
  go_enter Tryz.func60, Tryz.ntmps60
  go_wp2
  obtain ⟨W1, hW1⟩ : ∃ z, z = (w.alloc (.cells (circA c) 85)).alloc (.cells #[] 45) := ⟨_, rfl⟩
  rw [← hW1]
  have hB1 : Below w.heap.size w W1 := by rw [hW1]; (repeat' (first | (with_reducible exact Below.refl _ _) | (with_reducible refine Below.alloc ?_ ?_ _) | (with_reducible refine Below.drew ?_) | (with_reducible refine below_drewN ?_ _) | (with_reducible refine Below.setCell ?_ ?_ _) | (with_reducible refine below_via ‹_› ?_ ?_) | (with_reducible refine below_grow ?_ ?_ _ _) | omega | (simp; done) | (simp; omega)))
  have hA0 := hid (show Acc W1 (w.heap.size + 1) 45 3 encSector W1 (.slice (some ⟨w.heap.size + 1, 0, none⟩) 0 0) ([] : List SectorD) by
    have := Acc.lit (α := SectorD) (W := W1) (w0 := w.alloc (.cells (circA c) 85)) (e := 45) (by rw [hW1]; exact Below.refl _ _) 3 encSector
    simpa using this)
  have hR1 := hid (show RowC W1 w.heap.size c by rw [hW1]; exact (RowC.new w c).below (by (repeat' (first | (with_reducible exact Below.refl _ _) | (with_reducible refine Below.alloc ?_ ?_ _) | (with_reducible refine Below.drew ?_) | (with_reducible refine below_drewN ?_ _) | (with_reducible refine Below.setCell ?_ ?_ _) | (with_reducible refine below_via ‹_› ?_ ?_) | (with_reducible refine below_grow ?_ ?_ _ _) | omega | (simp; done) | (simp; omega)))))
  have hHB := hid hB1
  have hzW : w.heap.size + 2 ≤ W1.heap.size := by rw [hW1]; simp
  clear hW1
  go_loopw [3, 7] (fun q i wr => ∃ k : Nat, k ≤ 360 ∧ i = .int .i64 k ∧ Acc W1 (w.heap.size + 1) 45 3 encSector wr q (arcsP c k)) (fun _ i _ => 360 - (intOf i).toNat)
  case atStart => exact ⟨0, by omega, rfl, hA0.out⟩
  case round =>
    clear hA0
    obtain ⟨k, hk, rfl, hA⟩ := hrel
    have HA := hid hA; clear hA
    have hR := HA.out.rowC hR1.out (by omega)
    have hB : Below w.heap.size w wr := hHB.out.trans (HA.out.keep.mono (by omega))
    have hzr := hB.size
    have hlen := arcsP_len c k
    have hgl := hR.lt
    by_cases hlt : k < 360
    · have hlI : (k : Int) < 360 := by omega
      obtain ⟨q, hq⟩ : ∃ q : Nat, ((k : Int) + 359) % 360 = q := ⟨(((k : Int) + 359) % 360).toNat, by omega⟩
      have hq3 : q < 360 := by omega
      have hqI : (q : Int) < 360 := by omega
      have c1 := hR.cell hlt
      have c2 := hR.cell hq3
      have HS := hid (stB_ne (c := c) hq)
      have hw1 : IntKind.i64.wrap ((k : Int) + 360) = (k : Int) + 360 := IntWalk.i64_in _ (by omega)
      have hw2 : IntKind.i64.wrap ((k : Int) + 360 - 1) = (k : Int) + 360 - 1 := IntWalk.i64_in _ (by omega)
      have hrm : ((k : Int) + 360 - 1) % 360 = (q : Int) := by omega
      have hrt : ((k : Int) + 360 - 1).tmod 360 = (q : Int) := by rw [Int.tmod_eq_emod_of_nonneg (by omega)]; exact hrm
      have HRR := hid hR
      clear hq hR
      cases hb : ((c k).toList != (c q).toList)
      · have HE := hid (arcsP_f (HS.out.trans hb))
        have hb' : ((c k).toList == (c q).toList) = true := by simpa using hb
        go_wp2
        go_quiet (fail)
        go_wp2
        go_roundw
        case rel => exact ⟨k + 1, by omega, by go_num, by rw [HE.out]; exact HA.out.below (by (repeat' (first | (with_reducible exact Below.refl _ _) | (with_reducible refine Below.alloc ?_ ?_ _) | (with_reducible refine Below.drew ?_) | (with_reducible refine below_drewN ?_ _) | (with_reducible refine Below.setCell ?_ ?_ _) | (with_reducible refine below_via ‹_› ?_ ?_) | (with_reducible refine below_grow ?_ ?_ _ _) | omega | (simp; done) | (simp; omega))))⟩
        case measure => simp [intOf]; omega
      · have HT := hid (HS.out.trans hb)
        have hb' : ((c k).toList == (c q).toList) = false := by simpa using hb
        rcases List.eq_nil_or_concat (arcsP c k) with h0 | ⟨l, s, h0⟩
        · have HE := hid (arcsP_t0 HT.out h0)
          have hA2 : Acc W1 (w.heap.size + 1) 45 3 encSector wr u3 ([] : List SectorD) := by rw [← h0]; exact HA.out
          obtain ⟨av, cv, hu3⟩ := (hA2.slo fun _ => rfl).1.form
          simp only [List.length_nil] at hu3
          subst hu3
          have HA2 := hid hA2
          clear h0 hlen HA hA2
          go_wp2
          go_quiet (fail)
          have HA3 := hid (HA2.out.below (w' := wr.drewN nq) (by (repeat' (first | (with_reducible exact Below.refl _ _) | (with_reducible refine Below.alloc ?_ ?_ _) | (with_reducible refine Below.drew ?_) | (with_reducible refine below_drewN ?_ _) | (with_reducible refine Below.setCell ?_ ?_ _) | (with_reducible refine below_via ‹_› ?_ ?_) | (with_reducible refine below_grow ?_ ?_ _ _) | omega | (simp; done) | (simp; omega)))))
          go_wp2_with (at_builtin; refine wpList_push rfl (.tmp 30) (.tmp 36) 43 rfl i0 _ 32 Tryz.underlying43 hi iz0 iz1 iz2 rfl (by decide) (fun _ => rfl) (⟨k, 0, c k⟩ : SectorD) rfl HA3.out (Below.refl _ _) 45 1 (by first | rfl | (rw [size_set]; rfl)) (one_encSector _) (by unfold maxLen; simp) (by simp) ?_; intro v1 w1 hA1)
          go_roundw
          case rel => exact ⟨k + 1, by omega, by go_num, by rw [HE.out]; exact hA1⟩
          case measure => simp [intOf]; omega
        · rw [List.concat_eq_append] at h0
          have HE := hid (arcsP_t1 HT.out h0)
          have hln : l.length + 1 ≤ 360 := by rw [h0] at hlen; simp at hlen; omega
          have hA2 : Acc W1 (w.heap.size + 1) 45 3 encSector wr u3 (l ++ [s]) := by rw [← h0]; exact HA.out
          clear h0 hlen HA
          have hset := fun (wq : World) (hq : Below wr.heap.size wr wq) => (hA2.below hq).setLast (s' := ⟨s.fFrom, k, s.fColor⟩) (i := 1) (u := .int .i64 k) (fun _ => rfl) (by omega) rfl
          obtain ⟨g, cap, hu3, hcap, hcap2, hgw, hg0, hg1, -, -, -, -⟩ := hset wr (Below.refl _ _)
          subst hu3
          obtain ⟨n, hn⟩ : ∃ n, n = l.length + 1 := ⟨_, rfl⟩
          have hn1 : ((n : Int) - 1).toNat = l.length := by omega
          have hn2 : (1 : Int) ≤ n := by omega
          have hn3 : (n : Int) - 1 < n := by omega
          have hn4 : (0 : Int) < n := by omega
          have hn5 : IntKind.i64.wrap ((n : Int) - 1) = (n : Int) - 1 := IntWalk.i64_in _ (by omega)
          have hn6 : n ≤ cap := by omega
          rw [← hn] at hset ⊢
          have hln2 : n ≤ 360 := by omega
          have HN := hid hn
          have hgne : w.heap.size ≠ g := by omega
          clear hn hA2
          go_wp2
          go_quiet (fail)
          obtain ⟨wd, hwd⟩ : ∃ z, z = wr.drewN nq := ⟨_, rfl⟩
          rw [← hwd]
          have hBd : Below wr.heap.size wr wd := by rw [hwd]; (repeat' (first | (with_reducible exact Below.refl _ _) | (with_reducible refine Below.alloc ?_ ?_ _) | (with_reducible refine Below.drew ?_) | (with_reducible refine below_drewN ?_ _) | (with_reducible refine Below.setCell ?_ ?_ _) | (with_reducible refine below_via ‹_› ?_ ?_) | (with_reducible refine below_grow ?_ ?_ _ _) | omega | (simp; done) | (simp; omega)))
          obtain ⟨g', cap', e1, -, -, hgw', -, -, ⟨x, hx⟩, hfz, -, hA3⟩ := hset wd hBd
          simp only [Value.slice.injEq, Option.some.injEq, Addr.mk.injEq, and_true, true_and] at e1
          obtain ⟨rfl, rfl⟩ := e1
          have hR3 := HRR.out.below hBd
          have cS : (wd.setCell ⟨g, l.length * 3 + 1, none⟩ (.int .i64 k)).cell? ⟨w.heap.size, k, none⟩ = some (.string (c k)) := cell_far (hR3.cell hlt) (.inl hgne)
          have HA3 := hid hA3
          clear hset hwd hA3 hR3
          go_wp2_with (at_builtin; refine wpList_push rfl (.tmp 30) (.tmp 36) 43 rfl i0 _ 32 Tryz.underlying43 hi iz0 iz1 iz2 rfl (by decide) (fun _ => rfl) (⟨k, 0, c k⟩ : SectorD) rfl HA3.out (Below.refl _ _) 45 1 (by first | rfl | (rw [size_set]; rfl)) (one_encSector _) (by unfold maxLen; simp; omega) (by simp; omega) ?_; intro v1 w1 hA1)
          go_roundw
          case rel => exact ⟨k + 1, by omega, by go_num, by rw [HE.out]; exact hA1⟩
          case measure => simp [intOf]; omega
    · have e : k = 360 := by omega
      subst e
      rcases List.eq_nil_or_concat (arcsP c 360) with h0 | ⟨l, s, h0⟩
      · have HE := hid (arcsF_nil h0)
        have hA2 : Acc W1 (w.heap.size + 1) 45 3 encSector wr u3 ([] : List SectorD) := by rw [← h0]; exact HA.out
        obtain ⟨av, cv, hu3⟩ := (hA2.slo fun _ => rfl).1.form
        simp only [List.length_nil] at hu3
        subst hu3
        have c1 := hR.cell (d := 0) (by omega)
        clear h0 hlen HA hA2 hR
        go_wp2
        go_ret
        refine ⟨_, rfl, by (repeat' (first | (with_reducible exact Below.refl _ _) | (with_reducible refine Below.alloc ?_ ?_ _) | (with_reducible refine Below.drew ?_) | (with_reducible refine below_drewN ?_ _) | (with_reducible refine Below.setCell ?_ ?_ _) | (with_reducible refine below_via ‹_› ?_ ?_) | (with_reducible refine below_grow ?_ ?_ _ _) | omega | (simp; done) | (simp; omega))), ?_⟩
        rw [HE.out]
        exact (SlO.lit (w := wr) (enc := encSector) (n := 3) (fun _ => rfl) [⟨0, 0, c 0⟩] 45 (by unfold maxLen; simp)).mono (by omega)
      · rw [List.concat_eq_append] at h0
        have hln : l.length + 1 ≤ 360 := by rw [h0] at hlen; simp at hlen; omega
        have HE := hid (arcsF_pos h0 (by simp))
        have hA2 : Acc W1 (w.heap.size + 1) 45 3 encSector wr u3 (l ++ [s]) := by rw [← h0]; exact HA.out
        obtain ⟨F, hF⟩ : ∃ F, F = ((l ++ [s])[0]'(by simp)).fFrom := ⟨_, rfl⟩
        rw [← hF] at HE
        obtain ⟨g, cap, hu3, hcap, hcap2, hgw, hg0, hg1, ⟨x, hx⟩, hfz, -, hA3⟩ := hA2.setLast (s' := ⟨s.fFrom, F, s.fColor⟩) (i := 1) (u := .int .i64 F) (fun _ => rfl) (by omega) rfl
        subst hu3
        have hfirst : wr.cell? ⟨g, 0, none⟩ = some (.int .i64 F) := by
          rcases (hA2.slo fun _ => rfl).1 with ⟨_, _, _, e, _⟩ | ⟨b', o', c', e, hp, _, _, _, _, hcell⟩
          · simp at e
          · simp only [Value.slice.injEq, Option.some.injEq, Addr.mk.injEq] at e
            obtain ⟨⟨rfl, rfl, -⟩, -, -⟩ := e
            have := hcell 0 hp 0 (by omega)
            simpa [encSector, hF] using this
        clear hF h0 hlen HA hA2
        obtain ⟨n, hn⟩ : ∃ n, n = l.length + 1 := ⟨_, rfl⟩
        have hn1 : ((n : Int) - 1).toNat = l.length := by omega
        have hn2 : (1 : Int) ≤ n := by omega
        have hn3 : (n : Int) - 1 < n := by omega
        have hn4 : (0 : Int) < n := by omega
        have hn5 : IntKind.i64.wrap ((n : Int) - 1) = (n : Int) - 1 := IntWalk.i64_in _ (by omega)
        have hn6 : n ≤ cap := by omega
        have hn7 : ((n : Int) == 0) = false := by rw [beq_eq_false_iff_ne]; omega
        have hn8 : 0 < n := by omega
        rw [← hn] at hA3 ⊢
        have HA3 := hid hA3
        clear hn hA3 hR
        go_wp2
        go_ret
        have hd := HA3.out.done (fun _ => rfl) hHB.out (by omega)
        refine ⟨_, rfl, hd.1, ?_⟩
        rw [HE.out]; exact hd.2
end Go.Proofs.YtabbhlehbhadiaaGreatDoor
