/- 'FnSectors' returns true for every input: painting changes just the bearings of the sector, turning turns all colors, lit and dark parts make up the circle, and sectors are restored from their text. The listed variables are tied to the text by the given tie; no other condition. Printed by wip/mklawsec.py. -/
import Derived.Test.YtabbhlehbhadiaaGreatDoorDrawS
import Derived.Test.YtabbhlehbhadiaaGreatDoorSecP
import Derived.Test.YtabbhlehbhadiaaGreatDoorTSector
import Derived.Test.YtabbhlehbhadiaaGreatDoorSect
import Derived.Test.YtabbhlehbhadiaaGreatDoorSectT
import Derived.Test.YtabbhlehbhadiaaGreatDoorSectRI
import Derived.Test.YtabbhlehbhadiaaGreatDoorB10
import Derived.Test.YtabbhlehbhadiaaGreatDoorCardR
import Derived.Deep.RegionHeld3
namespace Go.Proofs.YtabbhlehbhadiaaGreatDoor.lawFnSectors
open Go.RowKit Go.Sort
set_option linter.unusedVariables false
set_option maxRecDepth 100000

theorem sec_ok {xs : List SectorD} (h : secB xs = true) : ∀ x ∈ xs, okSector x := fun x hx => by
  obtain ⟨h1, h2, h3⟩ := (secB_in h).2 x hx
  exact ⟨by unfold I64; omega, by unfold I64; omega, by unfold maxLen; omega⟩
theorem secsR_small {xs : List SectorD} (h : secB xs = true) : ((secsR xs).size : Int) ≤ 1048576 := by
  have h1 := (secB_in h).1
  have h2 := secsL_size (xs := xs) (fun x hx => secS_size (sec_ok h x hx).1 (sec_ok h x hx).2.1 ((secB_in h).2 x hx).1)
  rw [secsR, if_pos h, bs_size, secsT]
  split
  · simp
  · omega
theorem totA_bd (L : List SectorD) : ∀ n : Nat, 0 ≤ totA (aA L) n ∧ totA (aA L) n ≤ 360 * n
  | 0 => by simp [totA]
  | n + 1 => by
    have h := totA_bd L n
    have h2 := arcV_bd (fA L n) (tA L n)
    rw [totA]
    unfold aA at *
    omega
theorem lit_bd {xs : List SectorD} (h : secB xs = true) : 0 ≤ litV xs ∧ litV xs ≤ 5000 := by
  have h1 := (secB_in h).1
  have h2 := totA_bd xs xs.length
  rw [litV, if_pos h]
  omega
theorem bear_of {n : Int} (h : 0 ≤ n ∧ n ≤ 359) : bearB n = true := inB_of h.1 h.2
theorem dark_at {xs : List SectorD} {j : Nat} (h : secB xs = true) (hj : j < (sdL xs true).length) : (sdL xs true)[j].fColor = emp ∧ colV xs (sdL xs true)[j].fFrom = emp ∧ (0 ≤ (sdL xs true)[j].fFrom ∧ (sdL xs true)[j].fFrom ≤ 359) ∧ (0 ≤ (sdL xs true)[j].fTo ∧ (sdL xs true)[j].fTo ≤ 359) ∧ totA (aA (sdL xs true)) (j + 1) = totA (aA (sdL xs true)) j + arcV (sdL xs true)[j].fFrom (sdL xs true)[j].fTo := by
  obtain ⟨h1, h2, h3, h4⟩ := (sec_dark h).2 j hj
  rw [cA_get hj] at h1
  rw [fA_get hj] at h2 h3
  rw [tA_get hj] at h4
  exact ⟨h1, h2, h3, h4, by rw [totA]; unfold aA; rw [fA_get hj, tA_get hj]⟩
set_option maxHeartbeats 16000000 in
theorem walk (v0 : Value) (bs0 : List Int) (v1 : Value) (bs1 : List Int) (w : World) (h0 : SlA w 0 1 encU v0 bs0) (k0 : ∀ x ∈ bs0, 0 ≤ x ∧ x ≤ 255) (h1 : SlA w 0 1 encU v1 bs1) (k1 : ∀ x ∈ bs1, 0 ≤ x ∧ x ≤ 255) (hrd : Rd w) :
    Calls Tryz.prog 4 #[v0, v1] w fun e w' => e = .returned (.bool true) ∧ Below w.heap.size w w' := by
  obtain ⟨ad0, cp0, rfl⟩ := h0.form
  obtain ⟨ad1, cp1, rfl⟩ := h1.form
  go_enter Tryz.func4, Tryz.ntmps4
  go_wp2_with fail
  refine (c_b10Long _ _ _ _).mono ?_
  rintro e w' ⟨bb, rfl, hlen, rfl⟩
  cases bb with
  | true =>
    go_wp2_with fail
    go_ret
    exact ⟨rfl, Below.refl _ _⟩
  | false =>
  have hl0 := hlen rfl
  clear hlen
  go_wp2_with fail
  refine (c_b10Long _ _ _ _).mono ?_
  rintro e w' ⟨bb, rfl, hlen, rfl⟩
  cases bb with
  | true =>
    go_wp2_with fail
    go_ret
    exact ⟨rfl, Below.refl _ _⟩
  | false =>
  have hl1 := hlen rfl
  clear hlen
  go_wp2_with fail
  refine (c_DrawPaintSector _ bs0 _ h0 hl0 k0).mono ?_
  rintro e w1 ⟨u, xs, f, t, c, rfl, hb1, hS1, hxl, hsm, hs1⟩
  have hz1 := hb1.size
  obtain ⟨adu, cpu, rfl⟩ := hS1.form
  have HOK := hid (fun x hx => (hsm x hx).ok : ∀ x ∈ xs, okSector x)
  have hco : c.size ≤ maxLen := hs1.ok.2.2
  have hfI : -1000 ≤ f ∧ f ≤ 1000 := hs1.1
  obtain ⟨hf1, hf2⟩ := hfI
  clear hsm hs1
  go_wp2_with fail
  have T2 : Bk (w1.alloc (.cells #[.int .i64 f, .int .i64 t, .string c] 45)) w1.heap.size 45 [.int .i64 f, .int .i64 t, .string c] := Bk.new _ _ _
  have S2 : SlA (w1.alloc (.cells #[.int .i64 f, .int .i64 t, .string c] 45)) 0 3 encSector (.slice adu xs.length cpu) xs := hS1.at (by (repeat' (first | (with_reducible exact Below.refl _ _) | (with_reducible refine Below.alloc ?_ ?_ _) | (with_reducible refine Below.drew ?_) | (with_reducible refine below_drewN ?_ _) | (with_reducible refine Below.setCell ?_ ?_ _) | (with_reducible refine below_via ‹_› ?_ ?_) | (with_reducible refine below_grow ?_ ?_ _ _) | omega | (simp; done) | (simp; omega))))
  have B2 : Below w.heap.size w (w1.alloc (.cells #[.int .i64 f, .int .i64 t, .string c] 45)) := hb1.alloc hz1 _
  obtain ⟨w2, hw2⟩ : ∃ z, z = w1.alloc (.cells #[.int .i64 f, .int .i64 t, .string c] 45) := ⟨_, rfl⟩
  rw [← hw2] at T2 S2 B2 ⊢
  have hz2 : w1.heap.size < w2.heap.size := T2.lt
  obtain ⟨bx, hbx⟩ : ∃ z, z = w1.heap.size := ⟨_, rfl⟩
  rw [← hbx] at T2 hz1 hz2 ⊢
  clear hw2 hbx hb1 hS1
  refine (c_impl_PaintSector _ xs f t c _ S2 HOK.out (by omega) hco).mono ?_
  rintro e w3 ⟨u7, rfl, hb3, hS3⟩
  have T3 := T2.below hb3
  have S3 := S2.at hb3
  have hz3 := hb3.size
  have B3 : Below w.heap.size w w3 := B2.trans (hb3.mono (by omega))
  have M3 := h1.at B3
  have P3 : SlA w3 0 3 encSector u7 (paL xs f t c) := hS3.1.mono (Nat.zero_le _)
  obtain ⟨ad7, cp7, rfl⟩ := hS3.1.form
  clear T2 S2 B2 hb3 hS3
  have t0 := T3.cell 0 rfl
  have t1 := T3.cell 1 rfl
  have t2 := T3.cell 2 rfl
  go_wp2_with fail
  refine (c_b10Wide _ bs1 0 360 _ M3 k1 (by omega) (by omega) (by omega) (by omega)).mono ?_
  rintro e w' ⟨d, rfl, d0, d1', rfl⟩
  have d1 := d1' (by omega)
  clear d1' M3
  by_cases hp : paC xs f t c = 0
  · obtain ⟨hs, hf, ht, hsP, hcol⟩ := sec_paint hp
    rw [hp]
    have hcd := hcol d d0 d1
    have HS := hid hs
    have HP := hid hsP
    have cAO := fun w' => c_impl_ArcOf f t c w' (bear_of hf) (bear_of ht)
    have hab := arcV_bd f t
    obtain ⟨A, hA⟩ : ∃ A, A = arcV f t := ⟨_, rfl⟩
    rw [← hA] at cAO hab hcd
    have cCP := fun w' (h : SlA w' 0 3 encSector (.slice ad7 (paL xs f t c).length cp7) (paL xs f t c)) => c_impl_ColorAt _ (paL xs f t c) d w' h (sec_ok hsP) (by have := (secB_in hsP).1; omega) (by unfold I64; omega)
    have cVS := fun w' (h : SlA w' 0 3 encSector (.slice ad7 (paL xs f t c).length cp7) (paL xs f t c)) => c_spec_ValidSectors _ (paL xs f t c) w' h (sec_ok hsP)
    rw [hsP] at cVS
    rw [hcd] at cCP
    have hPl : ((paL xs f t c).length : Int) ≤ 12 := by have := (secB_in hsP).1; omega
    have HCP := hid cCP
    have HCV := hid cVS
    have HAO := hid cAO
    have HA := hid hA
    obtain ⟨cx, hcx⟩ : ∃ z, z = colV xs d := ⟨_, rfl⟩
    rw [← hcx] at HCP
    have HX := hid hcx
    obtain ⟨hf3, hf4⟩ := hf
    clear hp hs hsP hcol hcd cAO cCP cVS ht hA hcx
    go_wp2_with fail
    refine (HAO.out _).mono ?_
    rintro e w4 ⟨rfl, hb4⟩
    have hz4 := hb4.size
    have T4 := T3.below hb4
    have S4 := S3.at hb4
    have P4 := P3.at hb4
    have B4 : Below w.heap.size w w4 := B3.trans (hb4.mono (by omega))
    clear T3 S3 P3 B3 hb4 t0 t1 t2
    have t0 := T4.cell 0 rfl
    have t1 := T4.cell 1 rfl
    have t2 := T4.cell 2 rfl
    have cCX := c_impl_ColorAt _ xs d w4 S4 HOK.out (by omega) (by unfold I64; omega)
    rw [← HX.out] at cCX
    go_wp2_with fail
    refine cCX.mono ?_
    rintro e w5 ⟨rfl, hb5⟩
    have hz5 := hb5.size
    have T5 := T4.below hb5
    have S5 := S4.at hb5
    have P5 := P4.at hb5
    have B5 : Below w.heap.size w w5 := B4.trans (hb5.mono (by omega))
    clear T4 S4 P4 B4 hb5 cCX t0 t1 t2
    have t0 := T5.cell 0 rfl
    have t1 := T5.cell 1 rfl
    have t2 := T5.cell 2 rfl
    by_cases hin : (d - f) % 360 < A
    · have hin2 : (d - f + 360) % 360 < A := by omega
      have hcp := HCP.out w5 P5
      rw [if_pos hin] at hcp
      go_wp2_with fail
      refine hcp.mono ?_
      rintro e w6 ⟨rfl, hb6⟩
      have hz6 := hb6.size
      have S6 := S5.at hb6
      have P6 := P5.at hb6
      have B6 : Below w.heap.size w w6 := B5.trans (hb6.mono (by omega))
      have hcv := HCV.out w6 P6
      clear T5 S5 P5 B5 hb6 hcp t0 t1 t2 HCP HCV
      go_wp2_with fail
      refine hcv.mono ?_
      rintro e w7 ⟨rfl, hb7⟩
      have hz7 := hb7.size
      have S7 := S6.at hb7
      have B7 : Below w.heap.size w w7 := B6.trans (hb7.mono (by omega))
      clear S6 P6 B6 hb7 hcv
      have hs := HS.out
      have cla := c_impl_LitArc _ xs w7 S7 HOK.out (by omega)
      rw [show secC xs = 0 by rw [secC, hs]; rfl] at cla
      have hlb := lit_bd hs
      obtain ⟨V, hV⟩ : ∃ z, z = litV xs := ⟨_, rfl⟩
      rw [← hV] at cla hlb
      obtain ⟨hlb0, hlb1⟩ := hlb
      have HV := hid hV
      clear hs hV
      go_wp2_with fail
      refine cla.mono ?_
      rintro e w8 ⟨rfl, hb8⟩
      have hz8 := hb8.size
      have S8 := S7.at hb8
      have B8 : Below w.heap.size w w8 := B7.trans (hb8.mono (by have := B7.size; omega))
      clear S7 B7 hb8 cla
      have cda := c_impl_DarkArcs _ xs w8 S8 HOK.out (by omega)
      rw [show sdC xs = 0 by rw [sdC, HS.out]; rfl] at cda
      go_wp2_with fail
      refine cda.mono ?_
      rintro e w9 ⟨u9, rfl, hb9, hS9⟩
      have hz9 := hb9.size
      have S9 := S8.at hb9
      have B9 : Below w.heap.size w w9 := B8.trans (hb9.mono (by have := B8.size; omega))
      have D9 : SlA w9 0 3 encSector u9 (sdL xs true) := hS9.1.mono (Nat.zero_le _)
      obtain ⟨ad9, cp9, rfl⟩ := hS9.1.form
      have hdl := sdL_len xs true
      have hdk := fun j hj => dark_at HS.out (j := j) hj
      have hsum := (sec_dark HS.out).1
      have htb := totA_bd (sdL xs true)
      obtain ⟨D, hD⟩ : ∃ z, z = sdL xs true := ⟨_, rfl⟩
      rw [← hD] at D9 hdl hdk hsum htb ⊢
      rw [← HV.out] at hsum
      have HDK := hid hdk
      have HSUM := hid hsum
      have HTB := hid htb
      clear S8 B8 hb9 hS9 cda hdk hsum htb hD
      have cme := c_impl_MergeSectors _ xs w9 S9 HOK.out (by omega)
      rw [show sdC xs = 0 by rw [sdC, HS.out]; rfl] at cme
      go_wp2_with fail
      refine cme.mono ?_
      rintro e w10 ⟨u10, rfl, hb10, hS10⟩
      have hz10 := hb10.size
      have S10 := S9.at hb10
      have D10 := D9.at hb10
      have B10 : Below w.heap.size w w10 := B9.trans (hb10.mono (by have := B9.size; omega))
      have Y10 : SlA w10 0 3 encSector u10 (sdL xs false) := hS10.1.mono (Nat.zero_le _)
      obtain ⟨ad10, cp10, rfl⟩ := hS10.1.form
      have M10 := h1.at B10
      obtain ⟨ys1, ys2, ys3, ys4⟩ := sec_simple HS.out
      have hyl := (secB_in ys1).1
      have hyok := sec_ok ys1
      have hylit : secC (sdL xs false) = 0 := by rw [secC, ys1]; rfl
      obtain ⟨Y, hY⟩ : ∃ z, z = sdL xs false := ⟨_, rfl⟩
      rw [← hY] at Y10 ys1 ys2 ys3 ys4 hyl hyok hylit ⊢
      rw [← HV.out] at ys3
      have HY3 := hid (And.intro ys3 hylit)
      have HY4 := hid ys4
      have HYO := hid hyok
      clear S9 D9 B9 hb10 hS10 cme hY ys1 ys3 ys4 hyok hylit
      go_wp2_with fail
      refine (c_b10Wide _ bs1 2 720 _ M10 k1 (by omega) (by omega) (by omega) (by omega)).mono ?_
      rintro e w' ⟨q, rfl, q0, q1', rfl⟩
      have q1 := q1' (by omega)
      obtain ⟨N, hN⟩ : ∃ N, q = N + 360 := ⟨q - 360, by omega⟩
      subst hN
      have hN0 : -360 ≤ N := by omega
      have hN1 : N < 360 := by omega
      have hNe : N + 360 - 360 = N := by omega
      clear q1' M10 q0 q1
      have ctu := c_impl_TurnSectors _ xs N w10 S10 HOK.out (by omega) (by unfold I64; omega)
      rw [show sdC xs = 0 by rw [sdC, HS.out]; rfl] at ctu
      go_wp2_with fail
      refine ctu.mono ?_
      rintro e w11 ⟨u11, rfl, hb11, hS11⟩
      have hz11 := hb11.size
      have S11 := S10.at hb11
      have D11 := D10.at hb11
      have Y11 := Y10.at hb11
      have B11 : Below w.heap.size w w11 := B10.trans (hb11.mono (by have := B10.size; omega))
      have Z11 : SlA w11 0 3 encSector u11 (tuL xs N) := hS11.1.mono (Nat.zero_le _)
      obtain ⟨ad11, cp11, rfl⟩ := hS11.1.form
      obtain ⟨zs1, zs2, zs3⟩ := sec_turn HS.out N
      have hzl := (secB_in zs1).1
      have hzok := sec_ok zs1
      have hzlit : secC (tuL xs N) = 0 := by rw [secC, zs1]; rfl
      obtain ⟨Z, hZ⟩ : ∃ z, z = tuL xs N := ⟨_, rfl⟩
      rw [← hZ] at Z11 zs1 zs2 zs3 hzl hzok hzlit ⊢
      rw [← HV.out] at zs2
      have HZ2 := hid (And.intro zs2 hzlit)
      have HZ3 := hid (zs3 d)
      have HZO := hid hzok
      have cte := c_impl_SectorsText _ xs w11 S11 HOK.out (by omega) (hrd.at B11).pow
      clear S10 D10 Y10 B10 hb11 hS11 ctu hZ zs1 zs2 zs3 hzok hzlit hNe
      go_wp2_with fail
      refine cte.mono ?_
      rintro e w12 ⟨rfl, hb12⟩
      have hz12 := hb12.size
      have S12 := S11.at hb12
      have D12 := D11.at hb12
      have Y12 := Y11.at hb12
      have Z12 := Z11.at hb12
      have B12 : Below w.heap.size w w12 := B11.trans (hb12.mono (by have := B11.size; omega))
      have crd := c_impl_ReadSectors (secsR xs) w12 (secsR_small HS.out) (hrd.at B12)
      rw [sec_text HS.out] at crd
      clear S11 D11 Y11 Z11 B11 hb12 cte
      go_wp2_with fail
      refine crd.mono ?_
      rintro e w13 ⟨u13, rfl, hb13, hS13⟩
      simp only [Option.getD_some, Option.isSome_some] at hS13 ⊢
      obtain ⟨ad13, cp13, rfl⟩ := hS13.1.form
      have hz13 := hb13.size
      have S13 := S12.at hb13
      have D13 := D12.at hb13
      have Y13 := Y12.at hb13
      have Z13 := Z12.at hb13
      have B13 : Below w.heap.size w w13 := B12.trans (hb13.mono (by have := B12.size; omega))
      have R13 : SlA w13 0 3 encSector (.slice ad13 xs.length cp13) xs := hS13.1.mono (Nat.zero_le _)
      have csm := c_impl_SameSectors _ _ xs xs w13 R13 S13
      rw [sameG_refl] at csm
      have ysB : decide ((xs.length : Int) < (Y.length : Int)) = false := decide_eq_false (by omega)
      have ysB2 : decide (xs.length < Y.length) = false := decide_eq_false (by omega)
      have ysI : ¬ (xs.length : Int) < (Y.length : Int) := by omega
      clear S12 D12 Y12 Z12 B12 hb13 crd hS13
      go_wp2_with fail
      refine csm.mono ?_
      rintro e w14 ⟨rfl, hb14⟩
      have hz14 := hb14.size
      have S14 := S13.at hb14
      have D14 := D13.at hb14
      have Y14 := Y13.at hb14
      have Z14 := Z13.at hb14
      have B14 : Below w.heap.size w w14 := B13.trans (hb14.mono (by have := B13.size; omega))
      clear S13 D13 Y13 Z13 B13 R13 hb14 csm
      go_wp2_with fail
      go_loopw [23, 24] (fun s i wr => ∃ j : Nat, j ≤ D.length ∧ i = .int .i64 j ∧ s = .int .i64 (V + totA (aA D) j) ∧ Below w14.heap.size w14 wr) (fun _ i _ => D.length - (intOf i).toNat)
      case atStart => exact ⟨0, Nat.zero_le _, rfl, by simp [totA], Below.refl _ _⟩
      case round =>
        obtain ⟨j, hj, rfl, rfl, hB⟩ := hrel
        have hzr := hB.size
        have tb := HTB.out j
        obtain ⟨tb0, tb1⟩ := tb
        have HBB := hid (B14.trans (hB.mono (by have := B14.size; omega)))
        have S15 := S14.at hB
        by_cases hlt : j < D.length
        · have hlI : (j : Int) < D.length := by omega
          obtain ⟨g1, g2, ⟨g3, g4⟩, ⟨g5, g6⟩, g7⟩ := HDK.out j hlt
          obtain ⟨_, _, bd, od, hu', hmd, hadd, hxd⟩ := (D14.at hB).uni
          injection hu' with q1 q2 q3
          subst q1 q3
          obtain ⟨rfl, hbd, -, hcd, hmd2⟩ := hadd (by omega)
          have e0 := hxd j hlt 0 (by omega)
          have e1 := hxd j hlt 1 (by omega)
          have e2 := hxd j hlt 2 (by omega)
          simp only [encSector, List.getD_cons_zero, List.getD_cons_succ, Nat.add_zero] at e0 e1 e2
          obtain ⟨x, hx⟩ : ∃ x, x = D[j] := ⟨_, rfl⟩
          rw [← hx] at g1 g2 g3 g4 g5 g6 g7 e0 e1 e2
          have g1' : x.fColor = (⟨#[]⟩ : ByteArray) := g1
          have g2' : colV xs x.fFrom = (⟨#[]⟩ : ByteArray) := g2
          rw [g1'] at e2
          have cao := c_impl_ArcOf x.fFrom x.fTo ⟨#[]⟩ wr (bear_of ⟨g3, g4⟩) (bear_of ⟨g5, g6⟩)
          have hab := arcV_bd x.fFrom x.fTo
          obtain ⟨hab0, hab1⟩ := hab
          obtain ⟨av, hav⟩ : ∃ z, z = arcV x.fFrom x.fTo := ⟨_, rfl⟩
          obtain ⟨xf, hxf⟩ : ∃ z, z = x.fFrom := ⟨_, rfl⟩
          rw [← hav] at cao hab0 hab1 g7
          obtain ⟨tj, htj⟩ : ∃ z, z = totA (aA D) j := ⟨_, rfl⟩
          rw [← htj] at tb0 tb1 g7 ⊢
          have HG7 := hid g7
          have HG2 := hid g2'
          rw [← hxf] at g3 g4 e0 HG2 cao
          clear hadd hxd hx g1 g1' g2 g2' g7 hav htj hxf g5 g6
          go_wp2_with fail
          refine cao.mono ?_
          rintro e w15 ⟨rfl, hb15⟩
          have hz15 := hb15.size
          have S16 := S15.at hb15
          have a0 := below_cell hb15 hbd e0
          have a1 := below_cell hb15 hbd e1
          have a2 := below_cell hb15 hbd e2
          have hbd2 : bd < w15.heap.size := by omega
          have B15 : Below w14.heap.size w14 w15 := hB.trans (hb15.mono (by omega))
          have ccv := c_impl_ColorAt _ xs xf w15 S16 HOK.out (by omega) (by unfold I64; omega)
          rw [HG2.out] at ccv
          clear cao hb15 S15 e0 e1 e2
          go_wp2_with fail
          refine ccv.mono ?_
          rintro e w16 ⟨rfl, hb16⟩
          have B16 : Below w14.heap.size w14 w16 := B15.trans (hb16.mono (by omega))
          clear ccv hb16 S16 B15 a0 a1 a2
          go_wp2_with fail
          go_roundw
          case rel => exact ⟨j + 1, by omega, by go_num, by rw [HG7.out]; go_num, B16⟩
          case measure => simp [intOf]; omega
        · have hlI : ¬ (j : Int) < D.length := by omega
          have hjD : j = D.length := by omega
          have hs360 : V + totA (aA D) j = 360 := by rw [hjD]; exact HSUM.out
          rw [hs360]
          have cl1 := c_impl_LitArc _ Y wr (Y14.at hB) HYO.out (by omega)
          rw [HY3.out.1, HY3.out.2] at cl1
          have Y15 := Y14.at hB
          have Z15 := Z14.at hB
          clear hs360 hjD tb0 tb1
          go_wp2_with fail
          refine cl1.mono ?_
          rintro e w15 ⟨rfl, hb15⟩
          have hz15 := hb15.size
          have S16 := S15.at hb15
          have Y16 := Y15.at hb15
          have Z16 := Z15.at hb15
          have HB15 := hid (HBB.out.trans (hb15.mono (by have := HBB.out.size; omega)))
          have cl2 := c_impl_LitArc _ Z w15 Z16 HZO.out (by omega)
          rw [HZ2.out.1, HZ2.out.2] at cl2
          clear cl1 hb15 S15 Y15 Z15
          go_wp2_with fail
          refine cl2.mono ?_
          rintro e w16 ⟨rfl, hb16⟩
          have hz16 := hb16.size
          have S17 := S16.at hb16
          have Y17 := Y16.at hb16
          have Z17 := Z16.at hb16
          have HB16 := hid (HB15.out.trans (hb16.mono (by have := HB15.out.size; omega)))
          have cc1 := c_impl_ColorAt _ Y d w16 Y17 HYO.out (by omega) (by unfold I64; omega)
          rw [HY4.out d] at cc1
          obtain ⟨cy, hcy⟩ : ∃ z, z = colV xs d := ⟨_, rfl⟩
          rw [← hcy] at cc1
          have HC := hid hcy
          clear cl2 hb16 S16 Y16 Z16 hcy
          go_wp2_with fail
          refine cc1.mono ?_
          rintro e w17 ⟨rfl, hb17⟩
          have hz17 := hb17.size
          have S18 := S17.at hb17
          have Z18 := Z17.at hb17
          have HB17 := hid (HB16.out.trans (hb17.mono (by have := HB16.out.size; omega)))
          have cc2 := c_impl_ColorAt _ xs d w17 S18 HOK.out (by omega) (by unfold I64; omega)
          rw [← HC.out] at cc2
          clear cc1 hb17 S17 Z17 Y17
          go_wp2_with fail
          refine cc2.mono ?_
          rintro e w18 ⟨rfl, hb18⟩
          have hz18 := hb18.size
          have S19 := S18.at hb18
          have Z19 := Z18.at hb18
          have HB18 := hid (HB17.out.trans (hb18.mono (by have := HB17.out.size; omega)))
          have cc3 := c_impl_ColorAt _ Z (d + N) w18 Z19 HZO.out (by omega) (by unfold I64; omega)
          rw [HZ3.out, ← HC.out] at cc3
          clear cc2 hb18 S18 Z18
          go_wp2_with fail
          refine cc3.mono ?_
          rintro e w19 ⟨rfl, hb19⟩
          have hz19 := hb19.size
          have S20 := S19.at hb19
          have HB19 := hid (HB18.out.trans (hb19.mono (by have := HB18.out.size; omega)))
          have cc4 := c_impl_ColorAt _ xs d w19 S20 HOK.out (by omega) (by unfold I64; omega)
          rw [← HC.out] at cc4
          clear cc3 hb19 S19 Z19
          go_wp2_with fail
          refine cc4.mono ?_
          rintro e w20 ⟨rfl, hb20⟩
          have B20 := HB19.out.trans (hb20.mono (by have := HB19.out.size; omega))
          clear cc4 hb20 S20
          go_wp2_with fail
          go_ret
          exact ⟨by first | rfl | simp, B20⟩
    · have hin2 : ¬ (d - f + 360) % 360 < A := by omega
      have hcp := HCP.out w5 P5
      rw [if_neg hin] at hcp
      go_wp2_with fail
      refine hcp.mono ?_
      rintro e w6 ⟨rfl, hb6⟩
      have hz6 := hb6.size
      have S6 := S5.at hb6
      have P6 := P5.at hb6
      have B6 : Below w.heap.size w w6 := B5.trans (hb6.mono (by omega))
      have hcv := HCV.out w6 P6
      clear T5 S5 P5 B5 hb6 hcp t0 t1 t2 HCP HCV
      go_wp2_with fail
      refine hcv.mono ?_
      rintro e w7 ⟨rfl, hb7⟩
      have hz7 := hb7.size
      have S7 := S6.at hb7
      have B7 : Below w.heap.size w w7 := B6.trans (hb7.mono (by omega))
      clear S6 P6 B6 hb7 hcv
      have hs := HS.out
      have cla := c_impl_LitArc _ xs w7 S7 HOK.out (by omega)
      rw [show secC xs = 0 by rw [secC, hs]; rfl] at cla
      have hlb := lit_bd hs
      obtain ⟨V, hV⟩ : ∃ z, z = litV xs := ⟨_, rfl⟩
      rw [← hV] at cla hlb
      obtain ⟨hlb0, hlb1⟩ := hlb
      have HV := hid hV
      clear hs hV
      go_wp2_with fail
      refine cla.mono ?_
      rintro e w8 ⟨rfl, hb8⟩
      have hz8 := hb8.size
      have S8 := S7.at hb8
      have B8 : Below w.heap.size w w8 := B7.trans (hb8.mono (by have := B7.size; omega))
      clear S7 B7 hb8 cla
      have cda := c_impl_DarkArcs _ xs w8 S8 HOK.out (by omega)
      rw [show sdC xs = 0 by rw [sdC, HS.out]; rfl] at cda
      go_wp2_with fail
      refine cda.mono ?_
      rintro e w9 ⟨u9, rfl, hb9, hS9⟩
      have hz9 := hb9.size
      have S9 := S8.at hb9
      have B9 : Below w.heap.size w w9 := B8.trans (hb9.mono (by have := B8.size; omega))
      have D9 : SlA w9 0 3 encSector u9 (sdL xs true) := hS9.1.mono (Nat.zero_le _)
      obtain ⟨ad9, cp9, rfl⟩ := hS9.1.form
      have hdl := sdL_len xs true
      have hdk := fun j hj => dark_at HS.out (j := j) hj
      have hsum := (sec_dark HS.out).1
      have htb := totA_bd (sdL xs true)
      obtain ⟨D, hD⟩ : ∃ z, z = sdL xs true := ⟨_, rfl⟩
      rw [← hD] at D9 hdl hdk hsum htb ⊢
      rw [← HV.out] at hsum
      have HDK := hid hdk
      have HSUM := hid hsum
      have HTB := hid htb
      clear S8 B8 hb9 hS9 cda hdk hsum htb hD
      have cme := c_impl_MergeSectors _ xs w9 S9 HOK.out (by omega)
      rw [show sdC xs = 0 by rw [sdC, HS.out]; rfl] at cme
      go_wp2_with fail
      refine cme.mono ?_
      rintro e w10 ⟨u10, rfl, hb10, hS10⟩
      have hz10 := hb10.size
      have S10 := S9.at hb10
      have D10 := D9.at hb10
      have B10 : Below w.heap.size w w10 := B9.trans (hb10.mono (by have := B9.size; omega))
      have Y10 : SlA w10 0 3 encSector u10 (sdL xs false) := hS10.1.mono (Nat.zero_le _)
      obtain ⟨ad10, cp10, rfl⟩ := hS10.1.form
      have M10 := h1.at B10
      obtain ⟨ys1, ys2, ys3, ys4⟩ := sec_simple HS.out
      have hyl := (secB_in ys1).1
      have hyok := sec_ok ys1
      have hylit : secC (sdL xs false) = 0 := by rw [secC, ys1]; rfl
      obtain ⟨Y, hY⟩ : ∃ z, z = sdL xs false := ⟨_, rfl⟩
      rw [← hY] at Y10 ys1 ys2 ys3 ys4 hyl hyok hylit ⊢
      rw [← HV.out] at ys3
      have HY3 := hid (And.intro ys3 hylit)
      have HY4 := hid ys4
      have HYO := hid hyok
      clear S9 D9 B9 hb10 hS10 cme hY ys1 ys3 ys4 hyok hylit
      go_wp2_with fail
      refine (c_b10Wide _ bs1 2 720 _ M10 k1 (by omega) (by omega) (by omega) (by omega)).mono ?_
      rintro e w' ⟨q, rfl, q0, q1', rfl⟩
      have q1 := q1' (by omega)
      obtain ⟨N, hN⟩ : ∃ N, q = N + 360 := ⟨q - 360, by omega⟩
      subst hN
      have hN0 : -360 ≤ N := by omega
      have hN1 : N < 360 := by omega
      have hNe : N + 360 - 360 = N := by omega
      clear q1' M10 q0 q1
      have ctu := c_impl_TurnSectors _ xs N w10 S10 HOK.out (by omega) (by unfold I64; omega)
      rw [show sdC xs = 0 by rw [sdC, HS.out]; rfl] at ctu
      go_wp2_with fail
      refine ctu.mono ?_
      rintro e w11 ⟨u11, rfl, hb11, hS11⟩
      have hz11 := hb11.size
      have S11 := S10.at hb11
      have D11 := D10.at hb11
      have Y11 := Y10.at hb11
      have B11 : Below w.heap.size w w11 := B10.trans (hb11.mono (by have := B10.size; omega))
      have Z11 : SlA w11 0 3 encSector u11 (tuL xs N) := hS11.1.mono (Nat.zero_le _)
      obtain ⟨ad11, cp11, rfl⟩ := hS11.1.form
      obtain ⟨zs1, zs2, zs3⟩ := sec_turn HS.out N
      have hzl := (secB_in zs1).1
      have hzok := sec_ok zs1
      have hzlit : secC (tuL xs N) = 0 := by rw [secC, zs1]; rfl
      obtain ⟨Z, hZ⟩ : ∃ z, z = tuL xs N := ⟨_, rfl⟩
      rw [← hZ] at Z11 zs1 zs2 zs3 hzl hzok hzlit ⊢
      rw [← HV.out] at zs2
      have HZ2 := hid (And.intro zs2 hzlit)
      have HZ3 := hid (zs3 d)
      have HZO := hid hzok
      have cte := c_impl_SectorsText _ xs w11 S11 HOK.out (by omega) (hrd.at B11).pow
      clear S10 D10 Y10 B10 hb11 hS11 ctu hZ zs1 zs2 zs3 hzok hzlit hNe
      go_wp2_with fail
      refine cte.mono ?_
      rintro e w12 ⟨rfl, hb12⟩
      have hz12 := hb12.size
      have S12 := S11.at hb12
      have D12 := D11.at hb12
      have Y12 := Y11.at hb12
      have Z12 := Z11.at hb12
      have B12 : Below w.heap.size w w12 := B11.trans (hb12.mono (by have := B11.size; omega))
      have crd := c_impl_ReadSectors (secsR xs) w12 (secsR_small HS.out) (hrd.at B12)
      rw [sec_text HS.out] at crd
      clear S11 D11 Y11 Z11 B11 hb12 cte
      go_wp2_with fail
      refine crd.mono ?_
      rintro e w13 ⟨u13, rfl, hb13, hS13⟩
      simp only [Option.getD_some, Option.isSome_some] at hS13 ⊢
      obtain ⟨ad13, cp13, rfl⟩ := hS13.1.form
      have hz13 := hb13.size
      have S13 := S12.at hb13
      have D13 := D12.at hb13
      have Y13 := Y12.at hb13
      have Z13 := Z12.at hb13
      have B13 : Below w.heap.size w w13 := B12.trans (hb13.mono (by have := B12.size; omega))
      have R13 : SlA w13 0 3 encSector (.slice ad13 xs.length cp13) xs := hS13.1.mono (Nat.zero_le _)
      have csm := c_impl_SameSectors _ _ xs xs w13 R13 S13
      rw [sameG_refl] at csm
      have ysB : decide ((xs.length : Int) < (Y.length : Int)) = false := decide_eq_false (by omega)
      have ysB2 : decide (xs.length < Y.length) = false := decide_eq_false (by omega)
      have ysI : ¬ (xs.length : Int) < (Y.length : Int) := by omega
      clear S12 D12 Y12 Z12 B12 hb13 crd hS13
      go_wp2_with fail
      refine csm.mono ?_
      rintro e w14 ⟨rfl, hb14⟩
      have hz14 := hb14.size
      have S14 := S13.at hb14
      have D14 := D13.at hb14
      have Y14 := Y13.at hb14
      have Z14 := Z13.at hb14
      have B14 : Below w.heap.size w w14 := B13.trans (hb14.mono (by have := B13.size; omega))
      clear S13 D13 Y13 Z13 B13 R13 hb14 csm
      go_wp2_with fail
      go_loopw [23, 24] (fun s i wr => ∃ j : Nat, j ≤ D.length ∧ i = .int .i64 j ∧ s = .int .i64 (V + totA (aA D) j) ∧ Below w14.heap.size w14 wr) (fun _ i _ => D.length - (intOf i).toNat)
      case atStart => exact ⟨0, Nat.zero_le _, rfl, by simp [totA], Below.refl _ _⟩
      case round =>
        obtain ⟨j, hj, rfl, rfl, hB⟩ := hrel
        have hzr := hB.size
        have tb := HTB.out j
        obtain ⟨tb0, tb1⟩ := tb
        have HBB := hid (B14.trans (hB.mono (by have := B14.size; omega)))
        have S15 := S14.at hB
        by_cases hlt : j < D.length
        · have hlI : (j : Int) < D.length := by omega
          obtain ⟨g1, g2, ⟨g3, g4⟩, ⟨g5, g6⟩, g7⟩ := HDK.out j hlt
          obtain ⟨_, _, bd, od, hu', hmd, hadd, hxd⟩ := (D14.at hB).uni
          injection hu' with q1 q2 q3
          subst q1 q3
          obtain ⟨rfl, hbd, -, hcd, hmd2⟩ := hadd (by omega)
          have e0 := hxd j hlt 0 (by omega)
          have e1 := hxd j hlt 1 (by omega)
          have e2 := hxd j hlt 2 (by omega)
          simp only [encSector, List.getD_cons_zero, List.getD_cons_succ, Nat.add_zero] at e0 e1 e2
          obtain ⟨x, hx⟩ : ∃ x, x = D[j] := ⟨_, rfl⟩
          rw [← hx] at g1 g2 g3 g4 g5 g6 g7 e0 e1 e2
          have g1' : x.fColor = (⟨#[]⟩ : ByteArray) := g1
          have g2' : colV xs x.fFrom = (⟨#[]⟩ : ByteArray) := g2
          rw [g1'] at e2
          have cao := c_impl_ArcOf x.fFrom x.fTo ⟨#[]⟩ wr (bear_of ⟨g3, g4⟩) (bear_of ⟨g5, g6⟩)
          have hab := arcV_bd x.fFrom x.fTo
          obtain ⟨hab0, hab1⟩ := hab
          obtain ⟨av, hav⟩ : ∃ z, z = arcV x.fFrom x.fTo := ⟨_, rfl⟩
          obtain ⟨xf, hxf⟩ : ∃ z, z = x.fFrom := ⟨_, rfl⟩
          rw [← hav] at cao hab0 hab1 g7
          obtain ⟨tj, htj⟩ : ∃ z, z = totA (aA D) j := ⟨_, rfl⟩
          rw [← htj] at tb0 tb1 g7 ⊢
          have HG7 := hid g7
          have HG2 := hid g2'
          rw [← hxf] at g3 g4 e0 HG2 cao
          clear hadd hxd hx g1 g1' g2 g2' g7 hav htj hxf g5 g6
          go_wp2_with fail
          refine cao.mono ?_
          rintro e w15 ⟨rfl, hb15⟩
          have hz15 := hb15.size
          have S16 := S15.at hb15
          have a0 := below_cell hb15 hbd e0
          have a1 := below_cell hb15 hbd e1
          have a2 := below_cell hb15 hbd e2
          have hbd2 : bd < w15.heap.size := by omega
          have B15 : Below w14.heap.size w14 w15 := hB.trans (hb15.mono (by omega))
          have ccv := c_impl_ColorAt _ xs xf w15 S16 HOK.out (by omega) (by unfold I64; omega)
          rw [HG2.out] at ccv
          clear cao hb15 S15 e0 e1 e2
          go_wp2_with fail
          refine ccv.mono ?_
          rintro e w16 ⟨rfl, hb16⟩
          have B16 : Below w14.heap.size w14 w16 := B15.trans (hb16.mono (by omega))
          clear ccv hb16 S16 B15 a0 a1 a2
          go_wp2_with fail
          go_roundw
          case rel => exact ⟨j + 1, by omega, by go_num, by rw [HG7.out]; go_num, B16⟩
          case measure => simp [intOf]; omega
        · have hlI : ¬ (j : Int) < D.length := by omega
          have hjD : j = D.length := by omega
          have hs360 : V + totA (aA D) j = 360 := by rw [hjD]; exact HSUM.out
          rw [hs360]
          have cl1 := c_impl_LitArc _ Y wr (Y14.at hB) HYO.out (by omega)
          rw [HY3.out.1, HY3.out.2] at cl1
          have Y15 := Y14.at hB
          have Z15 := Z14.at hB
          clear hs360 hjD tb0 tb1
          go_wp2_with fail
          refine cl1.mono ?_
          rintro e w15 ⟨rfl, hb15⟩
          have hz15 := hb15.size
          have S16 := S15.at hb15
          have Y16 := Y15.at hb15
          have Z16 := Z15.at hb15
          have HB15 := hid (HBB.out.trans (hb15.mono (by have := HBB.out.size; omega)))
          have cl2 := c_impl_LitArc _ Z w15 Z16 HZO.out (by omega)
          rw [HZ2.out.1, HZ2.out.2] at cl2
          clear cl1 hb15 S15 Y15 Z15
          go_wp2_with fail
          refine cl2.mono ?_
          rintro e w16 ⟨rfl, hb16⟩
          have hz16 := hb16.size
          have S17 := S16.at hb16
          have Y17 := Y16.at hb16
          have Z17 := Z16.at hb16
          have HB16 := hid (HB15.out.trans (hb16.mono (by have := HB15.out.size; omega)))
          have cc1 := c_impl_ColorAt _ Y d w16 Y17 HYO.out (by omega) (by unfold I64; omega)
          rw [HY4.out d] at cc1
          obtain ⟨cy, hcy⟩ : ∃ z, z = colV xs d := ⟨_, rfl⟩
          rw [← hcy] at cc1
          have HC := hid hcy
          clear cl2 hb16 S16 Y16 Z16 hcy
          go_wp2_with fail
          refine cc1.mono ?_
          rintro e w17 ⟨rfl, hb17⟩
          have hz17 := hb17.size
          have S18 := S17.at hb17
          have Z18 := Z17.at hb17
          have HB17 := hid (HB16.out.trans (hb17.mono (by have := HB16.out.size; omega)))
          have cc2 := c_impl_ColorAt _ xs d w17 S18 HOK.out (by omega) (by unfold I64; omega)
          rw [← HC.out] at cc2
          clear cc1 hb17 S17 Z17 Y17
          go_wp2_with fail
          refine cc2.mono ?_
          rintro e w18 ⟨rfl, hb18⟩
          have hz18 := hb18.size
          have S19 := S18.at hb18
          have Z19 := Z18.at hb18
          have HB18 := hid (HB17.out.trans (hb18.mono (by have := HB17.out.size; omega)))
          have cc3 := c_impl_ColorAt _ Z (d + N) w18 Z19 HZO.out (by omega) (by unfold I64; omega)
          rw [HZ3.out, ← HC.out] at cc3
          clear cc2 hb18 S18 Z18
          go_wp2_with fail
          refine cc3.mono ?_
          rintro e w19 ⟨rfl, hb19⟩
          have hz19 := hb19.size
          have S20 := S19.at hb19
          have HB19 := hid (HB18.out.trans (hb19.mono (by have := HB18.out.size; omega)))
          have cc4 := c_impl_ColorAt _ xs d w19 S20 HOK.out (by omega) (by unfold I64; omega)
          rw [← HC.out] at cc4
          clear cc3 hb19 S19 Z19
          go_wp2_with fail
          refine cc4.mono ?_
          rintro e w20 ⟨rfl, hb20⟩
          have B20 := HB19.out.trans (hb20.mono (by have := HB19.out.size; omega))
          clear cc4 hb20 S20
          go_wp2_with fail
          go_ret
          exact ⟨by first | rfl | simp, B20⟩
  · have hpB : (paC xs f t c == 0) = false := by simpa using hp
    have hpB2 : (paC xs f t c != 0) = true := by simpa using hp
    cases hs : secB xs with
    | false =>
      have p1 : paC xs f t c = 1 := by rw [paC, hs]; rfl
      have cla := c_impl_LitArc _ xs w3 S3 HOK.out (by omega)
      rw [show litV xs = 0 by rw [litV, hs]; rfl, show secC xs = 1 by rw [secC, hs]; rfl] at cla
      rw [p1]
      clear hp hpB hpB2 p1 hs
      go_wp2_with fail
      refine cla.mono ?_
      rintro e w4 ⟨rfl, hb4⟩
      have B4 : Below w.heap.size w w4 := B3.trans (hb4.mono (by omega))
      clear hb4 cla
      go_wp2_with fail
      go_ret
      exact ⟨by first | rfl | simp, B4⟩
    | true =>
      have HS := hid hs
      obtain ⟨C1, hC1⟩ : ∃ z, z = paC xs f t c := ⟨_, rfl⟩
      rw [← hC1] at hpB hpB2 ⊢
      have S7 := S3
      have B7 := B3
      have hz7 := hz3
      clear hp hs hC1 S3 B3 P3 T3 t0 t1 t2
      obtain ⟨w7, hw7⟩ : ∃ z, z = w3 := ⟨_, rfl⟩
      rw [← hw7] at S7 B7 hz7 ⊢
      clear hw7
      have hs := HS.out
      have cla := c_impl_LitArc _ xs w7 S7 HOK.out (by omega)
      rw [show secC xs = 0 by rw [secC, hs]; rfl] at cla
      have hlb := lit_bd hs
      obtain ⟨V, hV⟩ : ∃ z, z = litV xs := ⟨_, rfl⟩
      rw [← hV] at cla hlb
      obtain ⟨hlb0, hlb1⟩ := hlb
      have HV := hid hV
      clear hs hV
      go_wp2_with fail
      refine cla.mono ?_
      rintro e w8 ⟨rfl, hb8⟩
      have hz8 := hb8.size
      have S8 := S7.at hb8
      have B8 : Below w.heap.size w w8 := B7.trans (hb8.mono (by have := B7.size; omega))
      clear S7 B7 hb8 cla
      have cda := c_impl_DarkArcs _ xs w8 S8 HOK.out (by omega)
      rw [show sdC xs = 0 by rw [sdC, HS.out]; rfl] at cda
      go_wp2_with fail
      refine cda.mono ?_
      rintro e w9 ⟨u9, rfl, hb9, hS9⟩
      have hz9 := hb9.size
      have S9 := S8.at hb9
      have B9 : Below w.heap.size w w9 := B8.trans (hb9.mono (by have := B8.size; omega))
      have D9 : SlA w9 0 3 encSector u9 (sdL xs true) := hS9.1.mono (Nat.zero_le _)
      obtain ⟨ad9, cp9, rfl⟩ := hS9.1.form
      have hdl := sdL_len xs true
      have hdk := fun j hj => dark_at HS.out (j := j) hj
      have hsum := (sec_dark HS.out).1
      have htb := totA_bd (sdL xs true)
      obtain ⟨D, hD⟩ : ∃ z, z = sdL xs true := ⟨_, rfl⟩
      rw [← hD] at D9 hdl hdk hsum htb ⊢
      rw [← HV.out] at hsum
      have HDK := hid hdk
      have HSUM := hid hsum
      have HTB := hid htb
      clear S8 B8 hb9 hS9 cda hdk hsum htb hD
      have cme := c_impl_MergeSectors _ xs w9 S9 HOK.out (by omega)
      rw [show sdC xs = 0 by rw [sdC, HS.out]; rfl] at cme
      go_wp2_with fail
      refine cme.mono ?_
      rintro e w10 ⟨u10, rfl, hb10, hS10⟩
      have hz10 := hb10.size
      have S10 := S9.at hb10
      have D10 := D9.at hb10
      have B10 : Below w.heap.size w w10 := B9.trans (hb10.mono (by have := B9.size; omega))
      have Y10 : SlA w10 0 3 encSector u10 (sdL xs false) := hS10.1.mono (Nat.zero_le _)
      obtain ⟨ad10, cp10, rfl⟩ := hS10.1.form
      have M10 := h1.at B10
      obtain ⟨ys1, ys2, ys3, ys4⟩ := sec_simple HS.out
      have hyl := (secB_in ys1).1
      have hyok := sec_ok ys1
      have hylit : secC (sdL xs false) = 0 := by rw [secC, ys1]; rfl
      obtain ⟨Y, hY⟩ : ∃ z, z = sdL xs false := ⟨_, rfl⟩
      rw [← hY] at Y10 ys1 ys2 ys3 ys4 hyl hyok hylit ⊢
      rw [← HV.out] at ys3
      have HY3 := hid (And.intro ys3 hylit)
      have HY4 := hid ys4
      have HYO := hid hyok
      clear S9 D9 B9 hb10 hS10 cme hY ys1 ys3 ys4 hyok hylit
      go_wp2_with fail
      refine (c_b10Wide _ bs1 2 720 _ M10 k1 (by omega) (by omega) (by omega) (by omega)).mono ?_
      rintro e w' ⟨q, rfl, q0, q1', rfl⟩
      have q1 := q1' (by omega)
      obtain ⟨N, hN⟩ : ∃ N, q = N + 360 := ⟨q - 360, by omega⟩
      subst hN
      have hN0 : -360 ≤ N := by omega
      have hN1 : N < 360 := by omega
      have hNe : N + 360 - 360 = N := by omega
      clear q1' M10 q0 q1
      have ctu := c_impl_TurnSectors _ xs N w10 S10 HOK.out (by omega) (by unfold I64; omega)
      rw [show sdC xs = 0 by rw [sdC, HS.out]; rfl] at ctu
      go_wp2_with fail
      refine ctu.mono ?_
      rintro e w11 ⟨u11, rfl, hb11, hS11⟩
      have hz11 := hb11.size
      have S11 := S10.at hb11
      have D11 := D10.at hb11
      have Y11 := Y10.at hb11
      have B11 : Below w.heap.size w w11 := B10.trans (hb11.mono (by have := B10.size; omega))
      have Z11 : SlA w11 0 3 encSector u11 (tuL xs N) := hS11.1.mono (Nat.zero_le _)
      obtain ⟨ad11, cp11, rfl⟩ := hS11.1.form
      obtain ⟨zs1, zs2, zs3⟩ := sec_turn HS.out N
      have hzl := (secB_in zs1).1
      have hzok := sec_ok zs1
      have hzlit : secC (tuL xs N) = 0 := by rw [secC, zs1]; rfl
      obtain ⟨Z, hZ⟩ : ∃ z, z = tuL xs N := ⟨_, rfl⟩
      rw [← hZ] at Z11 zs1 zs2 zs3 hzl hzok hzlit ⊢
      rw [← HV.out] at zs2
      have HZ2 := hid (And.intro zs2 hzlit)
      have HZ3 := hid (zs3 d)
      have HZO := hid hzok
      have cte := c_impl_SectorsText _ xs w11 S11 HOK.out (by omega) (hrd.at B11).pow
      clear S10 D10 Y10 B10 hb11 hS11 ctu hZ zs1 zs2 zs3 hzok hzlit hNe
      go_wp2_with fail
      refine cte.mono ?_
      rintro e w12 ⟨rfl, hb12⟩
      have hz12 := hb12.size
      have S12 := S11.at hb12
      have D12 := D11.at hb12
      have Y12 := Y11.at hb12
      have Z12 := Z11.at hb12
      have B12 : Below w.heap.size w w12 := B11.trans (hb12.mono (by have := B11.size; omega))
      have crd := c_impl_ReadSectors (secsR xs) w12 (secsR_small HS.out) (hrd.at B12)
      rw [sec_text HS.out] at crd
      clear S11 D11 Y11 Z11 B11 hb12 cte
      go_wp2_with fail
      refine crd.mono ?_
      rintro e w13 ⟨u13, rfl, hb13, hS13⟩
      simp only [Option.getD_some, Option.isSome_some] at hS13 ⊢
      obtain ⟨ad13, cp13, rfl⟩ := hS13.1.form
      have hz13 := hb13.size
      have S13 := S12.at hb13
      have D13 := D12.at hb13
      have Y13 := Y12.at hb13
      have Z13 := Z12.at hb13
      have B13 : Below w.heap.size w w13 := B12.trans (hb13.mono (by have := B12.size; omega))
      have R13 : SlA w13 0 3 encSector (.slice ad13 xs.length cp13) xs := hS13.1.mono (Nat.zero_le _)
      have csm := c_impl_SameSectors _ _ xs xs w13 R13 S13
      rw [sameG_refl] at csm
      have ysB : decide ((xs.length : Int) < (Y.length : Int)) = false := decide_eq_false (by omega)
      have ysB2 : decide (xs.length < Y.length) = false := decide_eq_false (by omega)
      have ysI : ¬ (xs.length : Int) < (Y.length : Int) := by omega
      clear S12 D12 Y12 Z12 B12 hb13 crd hS13
      go_wp2_with fail
      refine csm.mono ?_
      rintro e w14 ⟨rfl, hb14⟩
      have hz14 := hb14.size
      have S14 := S13.at hb14
      have D14 := D13.at hb14
      have Y14 := Y13.at hb14
      have Z14 := Z13.at hb14
      have B14 : Below w.heap.size w w14 := B13.trans (hb14.mono (by have := B13.size; omega))
      clear S13 D13 Y13 Z13 B13 R13 hb14 csm
      go_wp2_with fail
      go_loopw [23, 24] (fun s i wr => ∃ j : Nat, j ≤ D.length ∧ i = .int .i64 j ∧ s = .int .i64 (V + totA (aA D) j) ∧ Below w14.heap.size w14 wr) (fun _ i _ => D.length - (intOf i).toNat)
      case atStart => exact ⟨0, Nat.zero_le _, rfl, by simp [totA], Below.refl _ _⟩
      case round =>
        obtain ⟨j, hj, rfl, rfl, hB⟩ := hrel
        have hzr := hB.size
        have tb := HTB.out j
        obtain ⟨tb0, tb1⟩ := tb
        have HBB := hid (B14.trans (hB.mono (by have := B14.size; omega)))
        have S15 := S14.at hB
        by_cases hlt : j < D.length
        · have hlI : (j : Int) < D.length := by omega
          obtain ⟨g1, g2, ⟨g3, g4⟩, ⟨g5, g6⟩, g7⟩ := HDK.out j hlt
          obtain ⟨_, _, bd, od, hu', hmd, hadd, hxd⟩ := (D14.at hB).uni
          injection hu' with q1 q2 q3
          subst q1 q3
          obtain ⟨rfl, hbd, -, hcd, hmd2⟩ := hadd (by omega)
          have e0 := hxd j hlt 0 (by omega)
          have e1 := hxd j hlt 1 (by omega)
          have e2 := hxd j hlt 2 (by omega)
          simp only [encSector, List.getD_cons_zero, List.getD_cons_succ, Nat.add_zero] at e0 e1 e2
          obtain ⟨x, hx⟩ : ∃ x, x = D[j] := ⟨_, rfl⟩
          rw [← hx] at g1 g2 g3 g4 g5 g6 g7 e0 e1 e2
          have g1' : x.fColor = (⟨#[]⟩ : ByteArray) := g1
          have g2' : colV xs x.fFrom = (⟨#[]⟩ : ByteArray) := g2
          rw [g1'] at e2
          have cao := c_impl_ArcOf x.fFrom x.fTo ⟨#[]⟩ wr (bear_of ⟨g3, g4⟩) (bear_of ⟨g5, g6⟩)
          have hab := arcV_bd x.fFrom x.fTo
          obtain ⟨hab0, hab1⟩ := hab
          obtain ⟨av, hav⟩ : ∃ z, z = arcV x.fFrom x.fTo := ⟨_, rfl⟩
          obtain ⟨xf, hxf⟩ : ∃ z, z = x.fFrom := ⟨_, rfl⟩
          rw [← hav] at cao hab0 hab1 g7
          obtain ⟨tj, htj⟩ : ∃ z, z = totA (aA D) j := ⟨_, rfl⟩
          rw [← htj] at tb0 tb1 g7 ⊢
          have HG7 := hid g7
          have HG2 := hid g2'
          rw [← hxf] at g3 g4 e0 HG2 cao
          clear hadd hxd hx g1 g1' g2 g2' g7 hav htj hxf g5 g6
          go_wp2_with fail
          refine cao.mono ?_
          rintro e w15 ⟨rfl, hb15⟩
          have hz15 := hb15.size
          have S16 := S15.at hb15
          have a0 := below_cell hb15 hbd e0
          have a1 := below_cell hb15 hbd e1
          have a2 := below_cell hb15 hbd e2
          have hbd2 : bd < w15.heap.size := by omega
          have B15 : Below w14.heap.size w14 w15 := hB.trans (hb15.mono (by omega))
          have ccv := c_impl_ColorAt _ xs xf w15 S16 HOK.out (by omega) (by unfold I64; omega)
          rw [HG2.out] at ccv
          clear cao hb15 S15 e0 e1 e2
          go_wp2_with fail
          refine ccv.mono ?_
          rintro e w16 ⟨rfl, hb16⟩
          have B16 : Below w14.heap.size w14 w16 := B15.trans (hb16.mono (by omega))
          clear ccv hb16 S16 B15 a0 a1 a2
          go_wp2_with fail
          go_roundw
          case rel => exact ⟨j + 1, by omega, by go_num, by rw [HG7.out]; go_num, B16⟩
          case measure => simp [intOf]; omega
        · have hlI : ¬ (j : Int) < D.length := by omega
          have hjD : j = D.length := by omega
          have hs360 : V + totA (aA D) j = 360 := by rw [hjD]; exact HSUM.out
          rw [hs360]
          have cl1 := c_impl_LitArc _ Y wr (Y14.at hB) HYO.out (by omega)
          rw [HY3.out.1, HY3.out.2] at cl1
          have Y15 := Y14.at hB
          have Z15 := Z14.at hB
          clear hs360 hjD tb0 tb1
          go_wp2_with fail
          refine cl1.mono ?_
          rintro e w15 ⟨rfl, hb15⟩
          have hz15 := hb15.size
          have S16 := S15.at hb15
          have Y16 := Y15.at hb15
          have Z16 := Z15.at hb15
          have HB15 := hid (HBB.out.trans (hb15.mono (by have := HBB.out.size; omega)))
          have cl2 := c_impl_LitArc _ Z w15 Z16 HZO.out (by omega)
          rw [HZ2.out.1, HZ2.out.2] at cl2
          clear cl1 hb15 S15 Y15 Z15
          go_wp2_with fail
          refine cl2.mono ?_
          rintro e w16 ⟨rfl, hb16⟩
          have hz16 := hb16.size
          have S17 := S16.at hb16
          have Y17 := Y16.at hb16
          have Z17 := Z16.at hb16
          have HB16 := hid (HB15.out.trans (hb16.mono (by have := HB15.out.size; omega)))
          have cc1 := c_impl_ColorAt _ Y d w16 Y17 HYO.out (by omega) (by unfold I64; omega)
          rw [HY4.out d] at cc1
          obtain ⟨cy, hcy⟩ : ∃ z, z = colV xs d := ⟨_, rfl⟩
          rw [← hcy] at cc1
          have HC := hid hcy
          clear cl2 hb16 S16 Y16 Z16 hcy
          go_wp2_with fail
          refine cc1.mono ?_
          rintro e w17 ⟨rfl, hb17⟩
          have hz17 := hb17.size
          have S18 := S17.at hb17
          have Z18 := Z17.at hb17
          have HB17 := hid (HB16.out.trans (hb17.mono (by have := HB16.out.size; omega)))
          have cc2 := c_impl_ColorAt _ xs d w17 S18 HOK.out (by omega) (by unfold I64; omega)
          rw [← HC.out] at cc2
          clear cc1 hb17 S17 Z17 Y17
          go_wp2_with fail
          refine cc2.mono ?_
          rintro e w18 ⟨rfl, hb18⟩
          have hz18 := hb18.size
          have S19 := S18.at hb18
          have Z19 := Z18.at hb18
          have HB18 := hid (HB17.out.trans (hb18.mono (by have := HB17.out.size; omega)))
          have cc3 := c_impl_ColorAt _ Z (d + N) w18 Z19 HZO.out (by omega) (by unfold I64; omega)
          rw [HZ3.out, ← HC.out] at cc3
          clear cc2 hb18 S18 Z18
          go_wp2_with fail
          refine cc3.mono ?_
          rintro e w19 ⟨rfl, hb19⟩
          have hz19 := hb19.size
          have S20 := S19.at hb19
          have HB19 := hid (HB18.out.trans (hb19.mono (by have := HB18.out.size; omega)))
          have cc4 := c_impl_ColorAt _ xs d w19 S20 HOK.out (by omega) (by unfold I64; omega)
          rw [← HC.out] at cc4
          clear cc3 hb19 S19 Z19
          go_wp2_with fail
          refine cc4.mono ?_
          rintro e w20 ⟨rfl, hb20⟩
          have B20 := HB19.out.trans (hb20.mono (by have := HB19.out.size; omega))
          clear cc4 hb20 S20
          go_wp2_with fail
          go_ret
          exact ⟨by first | rfl | simp, B20⟩

open Go.ChangeShapes Go.WideShapes Go.ChangeAt
theorem own : ownKnob Tryz.prog.godebug = none := by kernel_rfl
theorem laidOut : laidOutB Tryz.prog = true := by kernel_rfl

set_option maxRecDepth 100000 in
theorem lifted (os : Os) (started : os.Started) (H : Type) (enc : TypeId × Value → H) :
    ReturnsInHanded {} Tryz.checked os 4 .any (fun w args => (Rows.fnSectorsSpec.pre enc Tryz.prog Tryz.f4 Rows.fnSectorsRow.domain false w args ∧ laidMetH Tryz.prog Rows.fnSectorsRow.laid w) ∧ sizedMet enc Tryz.prog Tryz.f4 (OpenSpec.ofChange Rows.fnSectorsSpec) false w args)
      (Rows.fnSectorsSpec.post enc Tryz.prog Tryz.f4 false true false false) := by
  refine returnsInHanded_of_change_shaped_and (C := Tryz.checked) (X := fun w _ => laidMetH Tryz.prog Rows.fnSectorsRow.laid w) (fun _ _ _ hh h => h.of_heap hh) own started (by kernel_rfl) Tryz.func4
    (ChangeSpec.witness_shaped (enc := enc) (C := Tryz.checked) (os := os) (X := fun w _ => laidMetH Tryz.prog Rows.fnSectorsRow.laid w) false (World.laidAll Tryz.prog os Rows.fnSectorsRow.laid) #[.slice none 0 0, .slice none 0 0] 8 (World.laidAll_os _ _ _)
      (World.shaped_of_ZipB (by kernel_rfl) (by kernel_rfl)) (by kernel_rfl) (by kernel_rfl) (by kernel_rfl)
      (by rw [MakeChecks.laidMetH_plain _ _ _ (by kernel_rfl)]; exact laidMet_laidAll _ (by kernel_rfl) (by kernel_rfl))) ?_
  intro W base args ds gs before hval0 hW hcnd _ hL hsh _
  rw [MakeChecks.laidMetH_plain _ _ _ (by kernel_rfl)] at hL
  have hRd : Rd W := rd_of_met hL hsh
  have hval : ∀ (j : Nat) t v, Tryz.f4.params[j]? = some t → args[j]? = some v → Value.okWide Tryz.prog W .any base t v := hval0
  have hW' := hW
  obtain ⟨p, q, hA0, hV, rfl, hfz, hnd⟩ := hW
  have hA : DataW.TrodAll enc Tryz.prog W 0 (fun _ => true) true Tryz.f4.params.toList args.toList ds p := hA0
  rw [Tryz.params4] at hA hval
  obtain ⟨u0, vs0, e0, ds0, p0, q0, hargs, rfl, rfl, t0, r0⟩ := trodAll_cons hA
  obtain ⟨u1, vs1, e1, ds1, p1, q1, rfl, rfl, rfl, t1, r1⟩ := trodAll_cons r0
  obtain ⟨rfl, rfl, rfl⟩ := trodAll_nil r1
  obtain rfl : args = #[u0, u1] := by cases args; simp_all
  obtain ⟨rfl, rfl⟩ := trodVars_none hV
  have t0' := t0
  have lt0 : ∀ x ∈ p0, x.block < W.heap.size := by obtain ⟨m, hm⟩ := t0'; exact DataW.trod_lt m _ _ _ hm
  obtain ⟨xs0, h0, k0⟩ := open_U8S (hval 0 22 u0 rfl rfl) t0
  have t1' := t1
  have lt1 : ∀ x ∈ p1, x.block < W.heap.size := by obtain ⟨m, hm⟩ := t1'; exact DataW.trod_lt m _ _ _ hm
  obtain ⟨xs1, h1, k1⟩ := open_U8S (hval 1 22 u1 rfl rfl) t1
  clear hA0 hval0
  refine (walk u0 xs0 u1 xs1 W h0 k0 h1 k1 hRd).mono fun e W' ⟨he, bel⟩ => ?_
  subst he
  exact ⟨_, rfl, _, _, _, [], _, [], hW', trodAll_mk1 (shut_bool Tryz.underlying4 _), (trodAll_cons_mk (Below.trod laidOut (by kernel_rfl) (of_decide_eq_true (by kernel_rfl)) t0' bel lt0) (trodAll_cons_mk (Below.trod laidOut (by kernel_rfl) (of_decide_eq_true (by kernel_rfl)) t1' bel lt1) trodAll_mk0)), rfl, bel.frame _, fun h => by cases h⟩

theorem cf_inPlace : (Rows.fnSectorsRow.inPlace == Tryz.prog.inPlace 4) = true := by kernel_rfl
theorem cf_unfollowed : (Rows.fnSectorsRow.unfollowed == Tryz.prog.unfollowed 4) = true := by kernel_rfl
theorem cf_recurses : (Rows.fnSectorsRow.recurses == Tryz.prog.recurses 4) = true := by kernel_rfl
theorem cf_named : (Rows.fnSectorsRow.named == Tryz.prog.varsNamed 4) = true := by kernel_rfl
theorem cf_lifted : (Rows.fnSectorsRow.lifted == Tryz.prog.liftsFinal) = true := pf_lifted
theorem cf_plainKeys : (Rows.fnSectorsRow.plainKeys == Tryz.prog.plainKeys) = true := pf_plainKeys
set_option maxRecDepth 100000 in
theorem closed : joinedFacts Tryz.prog 4 Tryz.f4 Rows.fnSectorsSpec Rows.fnSectorsRow = true := by
  simp only [joinedFacts, cf_inPlace, cf_unfollowed, cf_recurses, cf_named, cf_lifted, cf_plainKeys, pf_stopsHeard, pf_mayEnter, pf_laidOut, pf_mapsRowed, Bool.and_true]
  kernel_rfl
theorem holds : Rows.FnSectorsSaid :=
  OpenClaim.holds_of_wide 4 Tryz.f4 rfl rfl rfl rfl rfl rfl rfl ⟨rfl, rfl, rfl, rfl, rfl⟩ rfl rfl rfl rfl rfl (by kernel_rfl) Tryz.func4 closed
    (of_decide_eq_true (by kernel_rfl)) (by unfold Func.isWrapper; first | (rw [if_pos (by decide +kernel)]; kernel_rfl) | (rw [if_neg (by decide +kernel)]; exact ⟨rfl, rfl⟩))
    (fun os started H enc _ => lifted os started H enc)
theorem proved : Rows.FnSectorsCardSaid :=
  Claim7.holds_tied_plain_at .later [] _ true _ true holds (fun _ h => by cases h) (by kernel_rfl) (fun _ h => by cases h) fnSectors_row_tie rfl ⟨rfl, rfl⟩ (by kernel_rfl) rfl
    (fun f fn hf hfn => by
      obtain rfl : f = 4 := Option.some.inj ((show Tryz.prog.funcNamed Rows.fnSectorsRow.func = some 4 by kernel_rfl).symm.trans hf) |>.symm
      obtain rfl : fn = Tryz.f4 := (Option.some.inj (Tryz.func4.symm.trans hfn)).symm
      exact ⟨by kernel_rfl, fun j t ht => by
        rw [Tryz.params4] at ht
        have hm : t ∈ [22, 22] := by simpa using Array.mem_of_getElem? ht
        have hall : ([22, 22].all fun u => !Tryz.prog.wantsStandIn u) = true := by kernel_rfl
        exact (show Tryz.prog.wantsStandIn t = false by simpa using List.all_eq_true.1 hall t hm)⟩)
    (by kernel_rfl)
#print axioms proved

end Go.Proofs.YtabbhlehbhadiaaGreatDoor.lawFnSectors
