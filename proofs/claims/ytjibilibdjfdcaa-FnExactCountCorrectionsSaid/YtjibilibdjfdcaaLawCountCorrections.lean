/- 'CountCorrections' of the program answers as the reference's, for every input. No condition. Printed by wip/mklawcc.py. -/
import Derived.Test.YtjibilibdjfdcaaCount
import Derived.Test.YtjibilibdjfdcaaNCorrS
import Derived.Test.YtjibilibdjfdcaaMarkC
import Derived.Test.YtjibilibdjfdcaaMarkI
import Derived.Test.YtjibilibdjfdcaaTInt64
import Derived.Deep.RegionHeld3
namespace Go.Proofs.Ytjibilibdjfdcaa.lawCountCorrections
open Go.RowKit Go.Sort
set_option linter.unusedVariables false
set_option maxRecDepth 100000

def InC (w : World) (v : Value) (xs : List CorrectionD) : Prop := SlA w 0 17 encCorrection v xs ∧ ∀ x ∈ xs, inCorrection w 0 x
theorem InC.at {w w' : World} {v : Value} {xs : List CorrectionD} (h : InC w v xs) {B : Nat} (hb : Below B w w') (hB : w.heap.size ≤ B) : InC w' v xs := ⟨h.1.below hb hB, fun x hx => (h.2 x hx).below hb hB⟩
theorem copy_map {β : Type} (f : CorrectionD → β) (hf : ∀ d e, sameCorrection d e → f e = f d) {w : World} {lo : Nat} {xs ys : List CorrectionD} (h : CopyCorrection w lo xs ys) : ys.map f = xs.map f := by
  refine List.ext_getElem (by simp [h.1]) fun k h1 h2 => ?_
  simp only [List.length_map] at h1 h2
  simpa using hf _ _ (h.2.1 k h1 h2)
theorem cnt_map (p : Int → Bool) (xs : List CorrectionD) : cnt p xs = (((xs.map fun d => d.fKind).filter p).length : Int) := by
  unfold cnt
  rw [List.filter_map, List.length_map]
  rfl
theorem cc_copy {w : World} {lo : Nat} {xs ys : List CorrectionD} (h : CopyCorrection w lo xs ys) : cc ys = cc xs := by
  have e := copy_map (fun d => d.fKind) (fun d e hs => hs.1.symm) h
  unfold cc
  rw [cnt_map, cnt_map, cnt_map, cnt_map, e, ← cnt_map, ← cnt_map, ← cnt_map, ← cnt_map]
theorem msum_map : ∀ xs : List CorrectionD, msum xs = (xs.map wgt).sum
  | [] => by simp [msum]
  | x :: l => by rw [msum, msum_map l]; simp
theorem msum_copy {w : World} {lo : Nat} {xs ys : List CorrectionD} (h : CopyCorrection w lo xs ys) : msum ys = msum xs := by
  rw [msum_map, msum_map, copy_map wgt (fun d e hs => by unfold sameCorrection at hs; unfold wgt; simp_all) h]
theorem wgt_size (x : CorrectionD) : wgt x ≤ 15 + 3 * sizeCorrection x ∧ (x.fAidLightGroup.length : Int) ≤ sizeCorrection x ∧ (x.fAidSectors.length : Int) ≤ sizeCorrection x := by
  have := totSector_nn x.fAidSectors
  unfold wgt sizeCorrection
  omega
theorem msum_tot : ∀ xs : List CorrectionD, msum xs ≤ 15 * xs.length + 3 * totCorrection xs
  | [] => by simp [msum, totCorrection]
  | x :: l => by
    have h1 := msum_tot l
    have h2 := wgt_size x
    rw [msum, totCorrection, List.length_cons]
    omega
theorem tot_smallC : ∀ {xs : List CorrectionD} {n : Int}, totCorrection xs ≤ n → n ≤ 1048576 → ∀ x ∈ xs, x.fAidLightGroup.length ≤ 1048576 ∧ x.fAidSectors.length ≤ 1048576
  | [], _, _, _, x, hx => by cases hx
  | d :: l, n, h, hn, x, hx => by
    have h1 := totCorrection_nn l
    have h2 := sizeCorrection_nn d
    rw [totCorrection] at h
    rcases List.mem_cons.1 hx with rfl | hx
    · have h3 := wgt_size x
      omega
    · exact tot_smallC (n := n) (by omega) hn x hx
set_option maxHeartbeats 4000000 in
theorem walk (v0 : Value) (xs0 : List CorrectionD) (w : World) (h0 : InC w v0 xs0) (k0 : ∀ x ∈ xs0, okCorrection x) :
    Calls Try.prog 4 #[v0] w fun e w' => e = .returned (.bool true) ∧ Below w.heap.size w w' := by
  have nn0 := totCorrection_nn xs0
  have hms := msum_tot xs0
  have hm0 := msum_nn xs0
  have cz := c_szCorrectionS v0 xs0 1048576 w h0.1 k0 h0.2 (by omega) (by omega)
  obtain ⟨n0, hn0⟩ : ∃ n : Int, n = xs0.length + totCorrection xs0 := ⟨_, rfl⟩
  rw [← hn0] at cz
  rcases szV_cases 1048576 n0 (by omega) with hs0 | ⟨hs0, hle0, hub0⟩
  · clear hn0
    go_enter Try.func4, Try.ntmps4
    go_wp2_with fail
    refine cz.mono ?_
    rintro e w1 ⟨rfl, hb1⟩
    go_wp2_with fail
    go_ret
    exact ⟨rfl, hb1⟩
  have hl0 : (xs0.length : Int) ≤ 1048576 := by omega
  have sm0 := tot_smallC (xs := xs0) (n := 1048576) (by omega) (by omega)
  have hms2 : 1 + msum xs0 ≤ 1099511000000 := by omega
  have SM := hid sm0
  have HM0 := hid (And.intro hm0 hms2)
  clear hn0 nn0 sm0 hms hm0 hms2 k0
  go_enter Try.func4, Try.ntmps4
  go_wp2_with fail
  refine cz.mono ?_
  rintro e w1 ⟨rfl, hb1⟩
  have z1 := hb1.size
  have A1 := h0.at hb1 (Nat.le_refl _)
  have B1 := hid hb1
  have hN0 : ¬ (szV 1048576 n0 < 0) := by omega
  clear cz hb1 hle0 hub0 hs0
  go_wp2_with fail
  clear hN0
  refine (c_toCorrectionS _ xs0 w1 A1.1 A1.2 (by omega) SM.out).mono ?_
  rintro e w2 ⟨g2, ys2, rfl, hb2, hS2, hC2⟩
  have z2 := hb2.size
  have e2 := hid (cc_copy hC2)
  have l2 := hC2.1
  have B2 := hid (B1.out.trans (hb2.mono z1))
  have HL2 := hid (show ys2.length ≤ 1048576 by omega)
  clear hb2 hC2 A1 l2
  go_wp2_with fail
  refine (c_spec_CountCorrections _ ys2 w2 (hS2.1.mono (Nat.zero_le _)) HL2.out).mono ?_
  rintro e w3 ⟨g3, rfl, hb3, hS3⟩
  rw [e2.out] at hS3
  obtain ⟨q3c, -, -⟩ := hS3.2 g3 rfl
  have z3 := hb3.size
  have B3 := hid (B2.out.trans (hb3.mono (by omega)))
  have A3 := h0.at B3.out (Nat.le_refl _)
  clear hb3 hS2 e2
  go_wp2_with fail
  refine (c_toCorrectionS _ xs0 w3 A3.1 A3.2 (by omega) SM.out).mono ?_
  rintro e w4 ⟨g4, ys4, rfl, hb4, hS4, hC4⟩
  have z4 := hb4.size
  have e4 := hid (cc_copy hC4)
  have m4 := hid (msum_copy hC4)
  have HL4 := hid hC4.1
  have HL4b := hid (show ys4.length ≤ 1048576 by have := hC4.1; omega)
  have B4 := hid (B3.out.trans (hb4.mono (by omega)))
  have S3_4 := hS3.below hb4 (Nat.le_refl _)
  have HC4 := hid hC4
  obtain ⟨q4a, q4b, -⟩ := hS4.2 g4 rfl
  clear hb4 hC4 A3 hS3
  go_wp2_with fail
  refine (c_impl_CountCorrections _ ys4 w4 (hS4.1.mono (Nat.zero_le _)) HL4b.out).mono ?_
  rintro e w5 ⟨g5, rfl, hb5, hS5⟩
  rw [e4.out] at hS5
  have z5 := hb5.size
  have B5 := hid (B4.out.trans (hb5.mono (by omega)))
  have S3_5 := S3_4.below hb5 (Nat.le_refl _)
  have S4_5 := hS4.below hb5 (Nat.le_refl _)
  have N5 := hid hb5
  obtain ⟨q5a, q5b, -⟩ := hS5.2 g5 rfl
  obtain ⟨q3a, q3b, -⟩ := S3_4.2 g3 rfl
  clear hb5 S3_4 hS4 e4
  go_wp2_with fail
  refine (c_eqInt64S _ _ _ _ (cc xs0) w5 hS5.1 S3_5.1).mono ?_
  rintro e w6 ⟨rfl, hb6⟩
  have z6 := hb6.size
  have B6 := hid (B5.out.trans (hb6.mono (by omega)))
  have A6 := h0.at B6.out (Nat.le_refl _)
  have S3_6 := S3_5.below hb6 (Nat.le_refl _)
  have S4_6 := S4_5.below hb6 (Nat.le_refl _)
  have S5_6 := hS5.below hb6 (Nat.le_refl _)
  have N6 := hid (N5.out.trans (hb6.mono (by omega)))
  clear hb6 S3_5 S4_5 hS5 N5
  go_wp2_with fail
  refine (c_toCorrectionS _ xs0 w6 A6.1 A6.2 (by omega) SM.out).mono ?_
  rintro e w7 ⟨g7, ys7, rfl, hb7, hS7, hC7⟩
  have z7 := hb7.size
  have B7 := hid (B6.out.trans (hb7.mono (by omega)))
  have S3_7 := S3_6.below hb7 (Nat.le_refl _)
  have S4_7 := S4_6.below hb7 (Nat.le_refl _)
  have S5_7 := S5_6.below hb7 (Nat.le_refl _)
  have N7 := hid (N6.out.trans (hb7.mono (by omega)))
  have ceq := c_eqCorrectionS _ _ 0 0 ys4 ys7 w7 (S4_7.1.mono (Nat.zero_le _)) (hS7.1.mono (Nat.zero_le _)) (by rw [HC4.out.1, hC7.1]) (fun i h1 h2 => by
      have a := HC4.out.2.1 i h1 (by rw [← HC4.out.1]; exact h1)
      have c := hC7.2.1 i h2 (by rw [← HC4.out.1]; exact h1)
      unfold sameCorrection at *
      simp_all) (fun x hx => ((HC4.out.2.2 x hx).in.below N7.out (Nat.le_refl _)).mono (Nat.zero_le _)) (fun x hx => ((hC7.2.2 x hx).in).mono (Nat.zero_le _))
  clear hb7 hC7 A6 S3_6 S4_6 S5_6 N6 hS7
  go_wp2_with fail
  refine ceq.mono ?_
  rintro e w8 ⟨rfl, hb8⟩
  have z8 := hb8.size
  have B8 := hid (B7.out.trans (hb8.mono (by omega)))
  have S3_8 := S3_7.below hb8 (Nat.le_refl _)
  have S4_8 := S4_7.below hb8 (Nat.le_refl _)
  have S5_8 := S5_7.below hb8 (Nat.le_refl _)
  have N8 := hid (N7.out.trans (hb8.mono (by omega)))
  have cmk := c_markCorrectionS (.slice (some ⟨g4, 0, none⟩) xs0.length xs0.length) ys4 1 (fun b => w3.heap.size ≤ b ∧ b < w4.heap.size) w8 (S4_8.1.mono (Nat.zero_le _))
    (fun c hc => by
      simp only [Value.ownBlock, Option.some.injEq] at hc
      subst hc
      exact ⟨⟨q4b, q4a⟩, fun j => (S4_8.2 g4 rfl).2.2 j⟩)
    (fun x hx => ⟨ExO.of ((HC4.out.2.2 x hx).1.below N8.out (Nat.le_refl _)) (by omega), fun c hc => by
      obtain ⟨a1, a2, -⟩ := (HC4.out.2.2 x hx).1.2 c hc
      refine ⟨⟨by omega, a1⟩, fun e => ?_⟩
      simp only [Value.ownBlock, Option.some.injEq] at e
      omega⟩)
    (fun x hx => ⟨ExO.of ((HC4.out.2.2 x hx).2.below N8.out (Nat.le_refl _)) (by omega), fun c hc => by
      obtain ⟨a1, a2, -⟩ := (HC4.out.2.2 x hx).2.2 c hc
      refine ⟨⟨by omega, a1⟩, fun e => ?_⟩
      simp only [Value.ownBlock, Option.some.injEq] at e
      omega⟩) (by omega) (by rw [m4.out]; exact HM0.out.2)
  rw [m4.out] at cmk
  obtain ⟨MS, hMS⟩ : ∃ z, z = msum xs0 := ⟨_, rfl⟩
  have hMS0 : 0 ≤ MS := by rw [hMS]; exact HM0.out.1
  rw [← hMS] at cmk
  clear hb8 ceq S3_7 S4_7 S5_7 N7 hMS
  go_wp2_with fail
  refine cmk.mono ?_
  rintro e w9 ⟨rfl, hK9⟩
  have z9 := hK9.size
  have B9 := hid (B8.out.trans (hK9.below (B := w.heap.size) (by omega) (fun k hk => by omega)))
  have S3_9 := S3_8.kept hK9 (fun b hb => by obtain ⟨a1, a2, -⟩ := S3_8.2 b hb; simp only [Value.ownBlock, Option.some.injEq] at hb; omega)
  have S5_9 := S5_8.kept hK9 (fun b hb => by obtain ⟨a1, a2, -⟩ := S5_8.2 b hb; omega)
  clear hK9 cmk S3_8 S4_8 S5_8 N8 HC4
  have hneg : ¬ (1 + MS < 0) := by omega
  go_wp2_with fail
  refine (c_eqInt64S _ _ _ _ (cc xs0) w9 S5_9.1 S3_9.1).mono ?_
  rintro e w10 ⟨rfl, hb10⟩
  have z10 := hb10.size
  have B10 := hid (B9.out.trans (hb10.mono (by omega)))
  have S3_10 := S3_9.below hb10 (Nat.le_refl _)
  have S5_10 := S5_9.below hb10 (Nat.le_refl _)
  have cmi := c_markInt64S _ (cc xs0) 1 _ w10 S5_10 (by show 4 ≤ _; omega) (by omega) (by omega)
  rw [show (cc xs0).length = 4 from rfl] at cmi
  clear hb10 S3_9 S5_9
  go_wp2_with fail
  refine cmi.mono ?_
  rintro e w11 ⟨rfl, hm11, hS11⟩
  have z11 := hm11.size
  have B11 := hid (B10.out.grown hm11 (by omega) (fun k hk => by simp only [Value.ownBlock, Option.some.injEq] at hk; omega))
  have S3_11 := S3_10.grown hm11 (fun b hb => by obtain ⟨a1, a2, -⟩ := S3_10.2 b hb; intro e; simp only [Value.ownBlock, Option.some.injEq] at e hb; omega)
  have che := c_heldInt64S _ 4 1 _ w11 hS11.1 (by omega) (by omega) (by omega)
  clear hm11 cmi S3_10 S5_10
  go_wp2_with fail
  refine che.mono ?_
  rintro e w12 ⟨rfl, hb12⟩
  have z12 := hb12.size
  have B12 := hid (B11.out.trans (hb12.mono (by omega)))
  have S3_12 := S3_11.below hb12 (Nat.le_refl _)
  have S5_12 := hS11.below hb12 (Nat.le_refl _)
  have A12 := h0.at B12.out (Nat.le_refl _)
  clear hb12 che S3_11 hS11
  go_wp2_with fail
  refine (c_toCorrectionS _ xs0 w12 A12.1 A12.2 (by omega) SM.out).mono ?_
  rintro e w13 ⟨g13, ys13, rfl, hb13, hS13, hC13⟩
  have z13 := hb13.size
  have e13 := hid (cc_copy hC13)
  have HL13 := hid (show ys13.length ≤ 1048576 by have := hC13.1; omega)
  have B13 := hid (B12.out.trans (hb13.mono (by omega)))
  have S3_13 := S3_12.below hb13 (Nat.le_refl _)
  have S5_13 := S5_12.below hb13 (Nat.le_refl _)
  clear hb13 hC13 A12 S3_12 S5_12
  go_wp2_with fail
  refine (c_impl_CountCorrections _ ys13 w13 (hS13.1.mono (Nat.zero_le _)) HL13.out).mono ?_
  rintro e w14 ⟨g14, rfl, hb14, hS14⟩
  rw [e13.out] at hS14
  have z14 := hb14.size
  have B14 := hid (B13.out.trans (hb14.mono (by omega)))
  have S3_14 := S3_13.below hb14 (Nat.le_refl _)
  have S5_14 := S5_13.below hb14 (Nat.le_refl _)
  clear hb14 S3_13 S5_13 hS13 e13
  go_wp2_with fail
  refine (c_eqInt64S _ _ _ _ (cc xs0) w14 hS14.1 S3_14.1).mono ?_
  rintro e w15 ⟨rfl, hb15⟩
  have z15 := hb15.size
  have B15 := hid (B14.out.trans (hb15.mono (by omega)))
  have S5_15 := S5_14.below hb15 (Nat.le_refl _)
  have che := c_heldInt64S _ 4 1 _ w15 S5_15.1 (by omega) (by omega) (by omega)
  clear hb15 hS14 S3_14 S5_14
  go_wp2_with fail
  refine che.mono ?_
  rintro e w16 ⟨rfl, hb16⟩
  have B16 := B15.out.trans (hb16.mono (by omega))
  clear hb16 che
  go_wp2_with fail
  go_ret
  exact ⟨by first | rfl | simp, B16⟩

open Go.ChangeShapes Go.WideShapes Go.ChangeAt
theorem own : ownKnob Try.prog.godebug = none := by kernel_rfl
theorem laidOut : laidOutB Try.prog = true := by kernel_rfl

set_option maxRecDepth 100000 in
theorem lifted (os : Os) (started : os.Started) (H : Type) (enc : TypeId × Value → H) :
    ReturnsInHanded {} Try.checked os 4 .any (Rows.fnExactCountCorrectionsSpec.pre6 enc Try.prog Try.f4 Rows.fnExactCountCorrectionsRow.domain false) (Rows.fnExactCountCorrectionsSpec.post enc Try.prog Try.f4 false true false false) := by
  refine returnsInHanded_of_change (C := Try.checked) own started (by kernel_rfl) Try.func4
    (ChangeSpec.witness6 (enc := enc) (C := Try.checked) false ⟨#[], #[.slice none 0 0], []⟩ 8 (by kernel_rfl) (by kernel_rfl) (by kernel_rfl) (by kernel_rfl)) ?_
  intro W base args ds gs before hval0 hW hcnd _
  have hval : ∀ (j : Nat) t v, Try.f4.params[j]? = some t → args[j]? = some v → Value.okWide Try.prog W .any base t v := hval0
  have hW' := hW
  obtain ⟨p, q, hA0, hV, rfl, hfz, hnd⟩ := hW
  have hA : DataW.TrodAll enc Try.prog W 0 (fun _ => true) true Try.f4.params.toList args.toList ds p := hA0
  rw [Try.params4] at hA hval
  obtain ⟨u0, vs0, e0, ds0, p0, q0, hargs, rfl, rfl, t0, r0⟩ := trodAll_cons hA
  obtain ⟨rfl, rfl, rfl⟩ := trodAll_nil r0
  obtain rfl : args = #[u0] := by cases args; simp_all
  obtain ⟨rfl, rfl⟩ := trodVars_none hV
  have t0' := t0
  have lt0 : ∀ x ∈ p0, x.block < W.heap.size := by obtain ⟨m, hm⟩ := t0'; exact DataW.trod_lt m _ _ _ hm
  obtain ⟨xs0, h0, k0⟩ := open_CorrectionS (hval 0 32 u0 rfl rfl) t0
  clear hA0 hval0
  refine (walk u0 xs0 W ⟨h0, fun x hx => (k0 x hx).2⟩ (fun x hx => (k0 x hx).1)).mono fun e W' ⟨he, bel⟩ => ?_
  subst he
  exact ⟨_, rfl, _, _, _, [], _, [], hW', trodAll_mk1 (shut_bool Try.underlying4 _), (trodAll_cons_mk (Below.trod laidOut (by kernel_rfl) (of_decide_eq_true (by kernel_rfl)) t0' bel lt0) trodAll_mk0), rfl, bel.frame _, fun h => by cases h⟩

theorem proved : Rows.FnExactCountCorrectionsSaid :=
  OpenClaim.holds_of_wide 4 Try.f4 rfl rfl rfl rfl rfl rfl rfl ⟨rfl, rfl, rfl, rfl, rfl⟩ rfl rfl rfl rfl rfl (by kernel_rfl) Try.func4 (by kernel_rfl)
    (of_decide_eq_true (by kernel_rfl)) (by unfold Func.isWrapper; first | (rw [if_pos (by decide +kernel)]; kernel_rfl) | (rw [if_neg (by decide +kernel)]; exact ⟨rfl, rfl⟩))
    (fun os started H enc _ => lifted os started H enc)
#print axioms proved
end Go.Proofs.Ytjibilibdjfdcaa.lawCountCorrections
