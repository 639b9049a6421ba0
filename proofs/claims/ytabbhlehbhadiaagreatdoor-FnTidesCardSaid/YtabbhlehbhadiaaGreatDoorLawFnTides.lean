/- 'FnTides' returns true for every input: the water is at its heights at the turns, between them at other times, and moves with the tide. The listed variables are tied to the text by the given tie; no other condition. -/
import Derived.Test.YtabbhlehbhadiaaGreatDoorDrawA
import Derived.Test.YtabbhlehbhadiaaGreatDoorTidP
import Derived.Test.YtabbhlehbhadiaaGreatDoorB10
import Derived.Test.YtabbhlehbhadiaaGreatDoorCardR
import Derived.Deep.RegionHeld3
namespace Go.Proofs.YtabbhlehbhadiaaGreatDoor.lawFnTides
open Go.RowKit Go.Sort
set_option linter.unusedVariables false
set_option maxRecDepth 100000

theorem tideR_small {a b : Int} {xs : List Int} (hv : tideB a b xs = true) : ((tideR a b xs).size : Int) ≤ 1048576 := by
  obtain ⟨e0, e1, e2, e3, e4, e5, e6, e7, e8⟩ := tideB_true hv
  have h1 := Lib.itoa_length_le a (by omega) (by omega)
  have h2 := Lib.itoa_length_le b (by omega) (by omega)
  have h3 := listL_size (xs := xs) (fun x hx => by have := e0 x hx; unfold I64; omega)
  rw [tideR, if_pos hv, bs_size, tideT]
  simp only [List.length_append, List.length_cons]
  omega
theorem same_self (a b : Int) (xs : List Int) : sameTideB a b xs a b xs = true := by simp [sameTideB, sameI]
theorem highR_at {a b : Int} {xs : List Int} (hv : tideB a b xs = true) {i : Nat} (hi : i < (highR a b xs).length) : taC a b xs (highR a b xs)[i] = 0 ∧ (∀ t, taC a b xs t = 0 → (highR a b xs)[i] - b ≤ t → t ≤ (highR a b xs)[i] + b → taV a b xs t ≤ taV a b xs (highR a b xs)[i]) ∧ 0 ≤ (highR a b xs)[i] ∧ (highR a b xs)[i] ≤ 143999999 := by
  have hm : (highR a b xs)[i] ∈ highR a b xs := List.getElem_mem hi
  obtain ⟨h1, h2⟩ := tides_high hv hm
  exact ⟨h1, h2, highs_near hv hm⟩
set_option maxHeartbeats 8000000 in
theorem walk (v0 : Value) (bs0 : List Int) (v1 : Value) (bs1 : List Int) (w : World) (h0 : SlA w 0 1 encU v0 bs0) (k0 : ∀ x ∈ bs0, 0 ≤ x ∧ x ≤ 255) (h1 : SlA w 0 1 encU v1 bs1) (k1 : ∀ x ∈ bs1, 0 ≤ x ∧ x ≤ 255) (hrd : Rd w) :
    Calls Tryz.prog 3 #[v0, v1] w fun e w' => e = .returned (.bool true) ∧ Below w.heap.size w w' := by
  obtain ⟨ad0, cp0, rfl⟩ := h0.form
  obtain ⟨ad1, cp1, rfl⟩ := h1.form
  go_enter Tryz.func3, Tryz.ntmps3
  go_wp2_with fail
  refine (c_b10Long _ _ _ _).mono ?_
  rintro e w' ⟨bb, rfl, hlen, rfl⟩
  cases bb with
  | true =>
    go_wp2_with fail
    go_ret
    exact ⟨rfl, Below.refl _ _⟩
  | false =>
  have hl0 := hlen rfl
  clear hlen
  go_wp2_with fail
  refine (c_b10Long _ _ _ _).mono ?_
  rintro e w' ⟨bb, rfl, hlen, rfl⟩
  cases bb with
  | true =>
    go_wp2_with fail
    go_ret
    exact ⟨rfl, Below.refl _ _⟩
  | false =>
  have hl1 := hlen rfl
  clear hlen
  go_wp2_with fail
  refine (c_DrawTideAt _ bs0 _ h0 hl0 k0).mono ?_
  rintro e w1 ⟨a, b, v, xs, t, rfl, hb1, hS1, hxl⟩
  have hz1 := hb1.size
  obtain ⟨adv, cpv, rfl⟩ := hS1.form
  go_wp2_with fail
  have T2 : Bk (w1.alloc (.cells #[.int .i64 a, .int .i64 b, .slice adv xs.length cpv] 26)) w1.heap.size 26 [.int .i64 a, .int .i64 b, .slice adv xs.length cpv] := Bk.new _ _ _
  have S2 : SlA (w1.alloc (.cells #[.int .i64 a, .int .i64 b, .slice adv xs.length cpv] 26)) 0 1 encI (.slice adv xs.length cpv) xs := hS1.at (by (repeat' (first | (with_reducible exact Below.refl _ _) | (with_reducible refine Below.alloc ?_ ?_ _) | (with_reducible refine Below.drew ?_) | (with_reducible refine below_drewN ?_ _) | (with_reducible refine Below.setCell ?_ ?_ _) | (with_reducible refine below_via ‹_› ?_ ?_) | (with_reducible refine below_grow ?_ ?_ _ _) | omega | (simp; done) | (simp; omega))))
  have B2 : Below w.heap.size w (w1.alloc (.cells #[.int .i64 a, .int .i64 b, .slice adv xs.length cpv] 26)) := hb1.alloc hz1 _
  obtain ⟨w2, hw2⟩ : ∃ z, z = w1.alloc (.cells #[.int .i64 a, .int .i64 b, .slice adv xs.length cpv] 26) := ⟨_, rfl⟩
  rw [← hw2] at T2 S2 B2 ⊢
  have hz2 : w1.heap.size < w2.heap.size := T2.lt
  obtain ⟨bx, hbx⟩ : ∃ z, z = w1.heap.size := ⟨_, rfl⟩
  rw [← hbx] at T2 hz1 hz2 ⊢
  clear hw2 hbx hb1 hS1
  refine (c_impl_TideAt a b _ xs t _ S2 (by omega)).mono ?_
  rintro e w3 ⟨rfl, hb3⟩
  have T3 := T2.below hb3
  have S3 := S2.at hb3
  have hz3 := hb3.size
  have B3 : Below w.heap.size w w3 := B2.trans (hb3.mono (by omega))
  clear T2 S2 B2 hb3
  have t0 := T3.cell 0 rfl
  have t1 := T3.cell 1 rfl
  have t2 := T3.cell 2 rfl
  cases hv : tideB a b xs with
  | false =>
    obtain ⟨p1, p2⟩ := tides_bad (t := t) hv
    rw [p1, p2]
    have cte := c_impl_TideEnd a b _ xs w3 S3 (by omega)
    rw [show tideC a b xs = 1 by rw [tideC, hv]; rfl] at cte
    clear p1 p2 hv
    go_wp2_with fail
    refine cte.mono ?_
    rintro e w4 ⟨rfl, hb4⟩
    have B4 : Below w.heap.size w w4 := B3.trans (hb4.mono (by omega))
    clear hb4 cte
    go_wp2_with fail
    go_ret
    exact ⟨rfl, B4⟩
  | true =>
  obtain ⟨e0, e1, e2, e3, e4, e5, e6, e7, e8⟩ := tideB_true hv
  have HV := hid hv
  have HE0 := hid e0
  have cte := c_impl_TideEnd a b _ xs w3 S3 (by omega)
  rw [show tideC a b xs = 0 by rw [tideC, hv]; rfl, show tideEndR a b xs = tideEnd a b xs by rw [tideEndR, hv]; rfl] at cte
  have hsp := tides_span (t := t) hv
  have hlo := fun h => tides_low (a := a) (b := b) (xs := xs) (t := t) h
  have hsh := fun d h => tides_shift (a := a) (b := b) (xs := xs) (t := t) (d := d) h
  have hhi := fun i hi => highR_at hv (i := i) hi
  have htu := fun (k : Nat) (hk : k < xs.length) => tides_turn hv hk
  have hti := fun (k : Nat) (hk : k < xs.length) => inB_true (turn_in hv hk)
  have htx := tides_text hv
  have hin := fun h => inB_true (taC_zero (a := a) (b := b) (xs := xs) (t := t) h).2
  obtain ⟨C1, hC1⟩ : ∃ z, z = taC a b xs t := ⟨_, rfl⟩
  obtain ⟨V1, hV1⟩ : ∃ z, z = taV a b xs t := ⟨_, rfl⟩
  obtain ⟨E, hE⟩ : ∃ z, z = tideEnd a b xs := ⟨_, rfl⟩
  rw [← hE] at cte hsp hlo e7 e8 hti hin
  rw [← hC1] at hsp hlo hsh hin
  rw [← hV1] at hlo hsh
  rw [← hC1, ← hV1]
  have HLO := hid hlo
  have HSH := hid hsh
  have HHI := hid hhi
  have HTU := hid htu
  have HTI := hid hti
  have HTX := hid htx
  have HIN := hid hin
  have HC1 := hid hC1
  have HV1 := hid hV1
  have HEE := hid hE
  have HSP := hid hsp
  clear hsp hlo hsh hhi htu hti htx hin hC1 hV1 hE hv e0
  go_wp2_with fail
  refine cte.mono ?_
  rintro e w4 ⟨rfl, hb4⟩
  have T4 := T3.below hb4
  have S4 := S3.at hb4
  have hz4 := hb4.size
  have B4 : Below w.heap.size w w4 := B3.trans (hb4.mono (by omega))
  have M4 := h1.at B4
  clear T3 S3 B3 hb4 cte t0 t1 t2
  have t0 := T4.cell 0 rfl
  have t1 := T4.cell 1 rfl
  have t2 := T4.cell 2 rfl
  go_wp2_with fail
  refine (c_b10At _ bs1 0 xs.length _ M4 k1 (by omega) (by omega) (by omega)).mono ?_
  rintro e w' ⟨k', rfl, x0, x1, rfl⟩
  obtain ⟨K, rfl⟩ : ∃ K : Nat, k' = K := ⟨k'.toNat, by omega⟩
  have hK : K < xs.length := by have := x1 (by omega); omega
  have hKI : (K : Int) < xs.length := by omega
  obtain ⟨u1, u2⟩ := HTU.out K hK
  obtain ⟨i1, i2⟩ := HTI.out K hK
  have m1 : 0 ≤ (K : Int) * b := Int.mul_nonneg (by omega) (by omega)
  have m2 : a + K * b ≤ E := i2
  have wr1 : IntKind.i64.wrap ((K : Int) * b) = K * b := IntWalk.i64_in _ (by omega)
  have wr2 : IntKind.i64.wrap (a + (K : Int) * b) = a + K * b := IntWalk.i64_in _ (by omega)
  have ct := c_impl_TideAt a b _ xs (a + K * b) w4 S4 (by omega)
  rw [u1, u2] at ct
  clear x0 x1 u1 u2 i1 i2
  go_wp2_with fail
  refine ct.mono ?_
  rintro e w5 ⟨rfl, hb5⟩
  have T5 := T4.below hb5
  have S5 := S4.at hb5
  have hz5 := hb5.size
  have B5 : Below w.heap.size w w5 := B4.trans (hb5.mono (by omega))
  clear T4 S4 B4 M4 hb5 ct t0 t1 t2 wr1 wr2 m1
  have t0 := T5.cell 0 rfl
  have t1 := T5.cell 1 rfl
  have t2 := T5.cell 2 rfl
  have ch := c_impl_HighWaters a b _ xs w5 S5 (by omega)
  rw [show tideC a b xs = 0 by rw [tideC, HV.out]; rfl] at ch
  go_wp2_with fail
  refine ch.mono ?_
  rintro e w6 ⟨hu, rfl, hb6, hH6⟩
  obtain ⟨L, hL⟩ : ∃ z, z = highR a b xs := ⟨_, rfl⟩
  have hLl : L.length ≤ 64 := by rw [hL, highR, if_pos HV.out]; have := highsU_len a b xs xs.length; omega
  rw [← hL] at hH6
  have hhi := HHI.out
  rw [← hL] at hhi
  have HHI2 := hid hhi
  clear hhi hL HHI
  obtain ⟨adh, cph, rfl⟩ := hH6.1.form
  have T6 := T5.below hb6
  have S6 := S5.at hb6
  have hz6 := hb6.size
  have B6 : Below w.heap.size w w6 := B5.trans (hb6.mono (by omega))
  have H6 : SlA w6 0 1 encI (.slice adh L.length cph) L := hH6.1.mono (Nat.zero_le _)
  clear T5 S5 B5 hb6 ch t0 t1 t2 hH6
  have t0 := T6.cell 0 rfl
  have t1 := T6.cell 1 rfl
  have t2 := T6.cell 2 rfl
  have ctt := c_impl_TideText a b _ xs w6 S6 (fun x hx => by have := HE0.out x hx; unfold I64; omega) (by omega) (by unfold I64; omega) (by unfold I64; omega) (hrd.at B6).pow
  go_wp2_with fail
  refine ctt.mono ?_
  rintro e w7 ⟨rfl, hb7⟩
  have T7 := T6.below hb7
  have S7 := S6.at hb7
  have H7 := H6.at hb7
  have hz7 := hb7.size
  have B7 : Below w.heap.size w w7 := B6.trans (hb7.mono (by omega))
  clear T6 S6 H6 B6 hb7 ctt t0 t1 t2
  have crd := c_impl_ReadTide (tideR a b xs) w7 (tideR_small HV.out) (hrd.at B7)
  rw [HTX.out] at crd
  go_wp2_with fail
  refine crd.mono ?_
  rintro e w8 ⟨v8, rfl, hb8, hR8⟩
  simp only [tdA, tdE, tdX, Option.getD_some, Option.isSome_some] at hR8 ⊢
  obtain ⟨ad8, cp8, rfl⟩ := hR8.1.form
  have T8 := T7.below hb8
  have S8 := S7.at hb8
  have H8 := H7.at hb8
  have R8 : SlA w8 0 1 encI (.slice ad8 xs.length cp8) xs := hR8.1.mono (Nat.zero_le _)
  have hz8 := hb8.size
  have B8 : Below w.heap.size w w8 := B7.trans (hb8.mono (by omega))
  clear T7 S7 H7 B7 hb8 crd hR8
  have t0 := T8.cell 0 rfl
  have t1 := T8.cell 1 rfl
  have t2 := T8.cell 2 rfl
  have hbl := T8.lt
  obtain ⟨_, _, bu, ou, hu', hmu, hadu, hxu⟩ := S8.uni
  injection hu' with q1 q2 q3
  subst q1 q3
  obtain ⟨rfl, hbu, -, hcc, hmc⟩ := hadu (by omega)
  have gK := hxu K hK 0 (by omega)
  simp only [encI, List.getD_cons_zero, Nat.add_zero, Nat.mul_one] at gK
  clear hadu hxu
  have hmu2 := hmu
  by_cases hc1 : C1 = 0
  · subst hc1
    obtain ⟨n1, n2⟩ := HIN.out rfl
    have n2' : t ≤ E := n2
    clear n2
    go_wp2_with fail
    have T9 : Bk (w8.alloc (.cells #[.int .i64 a, .int .i64 b, .slice ad8 xs.length cp8] 26)) bx 26 [.int .i64 a, .int .i64 b, .slice (some ⟨bu, ou, none⟩) xs.length cpv] := T8.alloc _
    have S9 : SlA (w8.alloc (.cells #[.int .i64 a, .int .i64 b, .slice ad8 xs.length cp8] 26)) 0 1 encI (.slice (some ⟨bu, ou, none⟩) xs.length cpv) xs := S8.at (by (repeat' (first | (with_reducible exact Below.refl _ _) | (with_reducible refine Below.alloc ?_ ?_ _) | (with_reducible refine Below.drew ?_) | (with_reducible refine below_drewN ?_ _) | (with_reducible refine Below.setCell ?_ ?_ _) | (with_reducible refine below_via ‹_› ?_ ?_) | (with_reducible refine below_grow ?_ ?_ _ _) | omega | (simp; done) | (simp; omega))))
    have H9 : SlA (w8.alloc (.cells #[.int .i64 a, .int .i64 b, .slice ad8 xs.length cp8] 26)) 0 1 encI (.slice adh L.length cph) L := H8.at (by (repeat' (first | (with_reducible exact Below.refl _ _) | (with_reducible refine Below.alloc ?_ ?_ _) | (with_reducible refine Below.drew ?_) | (with_reducible refine below_drewN ?_ _) | (with_reducible refine Below.setCell ?_ ?_ _) | (with_reducible refine below_via ‹_› ?_ ?_) | (with_reducible refine below_grow ?_ ?_ _ _) | omega | (simp; done) | (simp; omega))))
    have R9 : SlA (w8.alloc (.cells #[.int .i64 a, .int .i64 b, .slice ad8 xs.length cp8] 26)) 0 1 encI (.slice ad8 xs.length cp8) xs := R8.at (by (repeat' (first | (with_reducible exact Below.refl _ _) | (with_reducible refine Below.alloc ?_ ?_ _) | (with_reducible refine Below.drew ?_) | (with_reducible refine below_drewN ?_ _) | (with_reducible refine Below.setCell ?_ ?_ _) | (with_reducible refine below_via ‹_› ?_ ?_) | (with_reducible refine below_grow ?_ ?_ _ _) | omega | (simp; done) | (simp; omega))))
    have B9 : Below w.heap.size w (w8.alloc (.cells #[.int .i64 a, .int .i64 b, .slice ad8 xs.length cp8] 26)) := B8.alloc (by omega) _
    obtain ⟨w9, hw9⟩ : ∃ z, z = w8.alloc (.cells #[.int .i64 a, .int .i64 b, .slice ad8 xs.length cp8] 26) := ⟨_, rfl⟩
    rw [← hw9] at T9 S9 H9 R9 B9 ⊢
    have hz9 : w8.heap.size ≤ w9.heap.size := by rw [hw9]; simp
    clear hw9 T8 S8 H8 R8 B8 t0 t1 t2 gK
    refine (c_impl_SameTide a b _ xs a b _ xs w9 R9 S9).mono ?_
    rintro e w10 ⟨rfl, hb10⟩
    rw [same_self]
    have T10 := T9.below hb10
    have S10 := S9.at hb10
    have H10 := H9.at hb10
    have hz10 := hb10.size
    have B10 : Below w.heap.size w w10 := B9.trans (hb10.mono (by omega))
    clear T9 S9 H9 R9 B9 hb10
    have t0 := T10.cell 0 rfl
    have t1 := T10.cell 1 rfl
    have t2 := T10.cell 2 rfl
    go_wp2_with fail
    go_loopw [18] (fun i wr => ∃ j : Nat, j ≤ L.length ∧ i = .int .i64 j ∧ Below w10.heap.size w10 wr) (fun i _ => L.length - (intOf i).toNat)
    case atStart => exact ⟨0, Nat.zero_le _, rfl, Below.refl _ _⟩
    case round =>
      obtain ⟨j, hj, rfl, hB⟩ := hrel
      have hzr := hB.size
      have T11 := T10.below hB
      have S11 := S10.at hB
      have HBB := hid (B10.trans (hB.mono (by omega)))
      clear t0 t1 t2
      by_cases hlt : j < L.length
      · have hlI : (j : Int) < L.length := by omega
        obtain ⟨g1, g2, g3, g4⟩ := HHI2.out j hlt
        obtain ⟨_, _, bh, oh, hu', hmh, hadh, hxh⟩ := (H10.at hB).uni
        injection hu' with q1 q2 q3
        subst q1 q3
        obtain ⟨rfl, hbh, -, hch, hmh2⟩ := hadh (by omega)
        have gh := hxh j hlt 0 (by omega)
        simp only [encI, List.getD_cons_zero, Nat.add_zero, Nat.mul_one] at gh
        obtain ⟨X, hX⟩ : ∃ X, X = L[j] := ⟨_, rfl⟩
        rw [← hX] at g1 g2 g3 g4 gh
        have ct := fun (q : Nat) (os : Array Obj) => c_impl_TideAt a b _ xs X (grow (redrawn wr q) os) (S11.below (below_regrown wr q os) (Nat.le_refl _)) (by omega)
        rw [g1] at ct
        have g2' := g2 t
        obtain ⟨VX, hVX⟩ : ∃ z, z = taV a b xs X := ⟨_, rfl⟩
        rw [← HC1.out, ← HV1.out, ← hVX] at g2'
        rw [← hVX] at ct
        have HG2 := hid g2'
        have c0 := T11.cell 0 rfl
        have c1 := T11.cell 1 rfl
        have c2 := T11.cell 2 rfl
        have r0 := cellr c0
        have r1 := cellr c1
        have r2 := cellr c2
        have rh := cellr gh
        have hbw : bx < wr.heap.size := T11.lt
        clear hadh hxh hX hVX g1 g2 g2'
        go_wp2_with fail
        (refine wp_region_quiet_below (by kernel_rfl) (by kernel_rfl) ?_; (repeat (first | go_big_quiet_step ((first | (go_at_call 7; exact regrown_of (ct _ _)))) | quiet_step ((first | (go_at_call 7; exact regrown_of (ct _ _)))))); refine wpQuiet_nil ?_; intro w1 hw'; have hb := below_of_regrown hw'; clear hw'; obtain ⟨hc, hf⟩ := bcell hb; have hz := hb.size; (try simp at hz); (try have hz0 : ∀ b, b < w.heap.size → b < w1.heap.size := fun b h => by omega); (try have hz1 : w.heap.size < w1.heap.size := by omega); (try have hz2 : w.heap.size + 1 < w1.heap.size := by omega); (try have hz3 : w.heap.size + 2 < w1.heap.size := by omega))
        clear r0 r1 r2 rh ct
        have y1 : IntKind.i64.wrap (X - b) = X - b := IntWalk.i64_in _ (by omega)
        have y2 : IntKind.i64.wrap (X + b) = X + b := IntWalk.i64_in _ (by omega)
        by_cases d1 : X - b ≤ t
        · have d1B : decide (X - b ≤ t) = true := decide_eq_true d1
          by_cases d2 : t ≤ X + b
          · have d2B : decide (t ≤ X + b) = true := decide_eq_true d2
            have d3 : V1 ≤ VX := HG2.out (by first | rfl | trivial) d1 d2
            have d3B : decide (VX < V1) = false := decide_eq_false (by omega)
            go_wp2_with fail
            go_quiet (fail)
            clear y1 y2 d1B d2B d3B
            go_wp2_with fail
            go_roundw
            case rel => exact ⟨j + 1, by omega, by go_num, by (repeat' (first | (with_reducible exact Below.refl _ _) | (with_reducible refine Below.alloc ?_ ?_ _) | (with_reducible refine Below.drew ?_) | (with_reducible refine below_drewN ?_ _) | (with_reducible refine Below.setCell ?_ ?_ _) | (with_reducible refine below_via ‹_› ?_ ?_) | (with_reducible refine below_grow ?_ ?_ _ _) | omega | (simp; done) | (simp; omega)))⟩
            case measure => simp [intOf]; omega
          · have d2B : decide (t ≤ X + b) = false := decide_eq_false d2
            go_wp2_with fail
            go_quiet (fail)
            clear y1 y2 d1B d2B
            go_wp2_with fail
            go_roundw
            case rel => exact ⟨j + 1, by omega, by go_num, by (repeat' (first | (with_reducible exact Below.refl _ _) | (with_reducible refine Below.alloc ?_ ?_ _) | (with_reducible refine Below.drew ?_) | (with_reducible refine below_drewN ?_ _) | (with_reducible refine Below.setCell ?_ ?_ _) | (with_reducible refine below_via ‹_› ?_ ?_) | (with_reducible refine below_grow ?_ ?_ _ _) | omega | (simp; done) | (simp; omega)))⟩
            case measure => simp [intOf]; omega
        · have d1B : decide (X - b ≤ t) = false := decide_eq_false d1
          go_wp2_with fail
          go_quiet (fail)
          clear y1 y2 d1B
          go_wp2_with fail
          go_roundw
          case rel => exact ⟨j + 1, by omega, by go_num, by (repeat' (first | (with_reducible exact Below.refl _ _) | (with_reducible refine Below.alloc ?_ ?_ _) | (with_reducible refine Below.drew ?_) | (with_reducible refine below_drewN ?_ _) | (with_reducible refine Below.setCell ?_ ?_ _) | (with_reducible refine below_via ‹_› ?_ ?_) | (with_reducible refine below_grow ?_ ?_ _ _) | omega | (simp; done) | (simp; omega)))⟩
          case measure => simp [intOf]; omega
      · have hlI : ¬ (j : Int) < L.length := by omega
        obtain ⟨l1, l2, l3, l4⟩ := HLO.out (by first | rfl | trivial)
        have clw := c_impl_LowestWater a b _ xs a E wr S11 (by omega)
        rw [l1] at clw
        obtain ⟨A, hA⟩ : ∃ z, z = lwA a b xs a E := ⟨_, rfl⟩
        obtain ⟨W, hW⟩ : ∃ z, z = lwL a b xs a E := ⟨_, rfl⟩
        rw [← hA, ← hW] at clw
        rw [← hA] at l2
        rw [← hA, ← hW] at l3
        rw [← hW] at l4
        have c0 := T11.cell 0 rfl
        have c1 := T11.cell 1 rfl
        have c2 := T11.cell 2 rfl
        have hbw : bx < wr.heap.size := T11.lt
        have HL2 := hid l2
        have HL3 := hid l3
        clear hA hW l1 l2 l3
        go_wp2_with fail
        refine clw.mono ?_
        rintro e w12 ⟨rfl, hb12⟩
        have T12 := T11.below hb12
        have S12 := S11.at hb12
        have hz12 := hb12.size
        have HB12 := hid (HBB.out.trans (hb12.mono (by have := HBB.out.size; omega)))
        clear T11 S11 clw hb12 c0 c1 c2
        have c0 := T12.cell 0 rfl
        have c1 := T12.cell 1 rfl
        have c2 := T12.cell 2 rfl
        have ct := c_impl_TideAt a b _ xs A w12 S12 (by omega)
        rw [HL2.out, HL3.out] at ct
        go_wp2_with fail
        refine ct.mono ?_
        rintro e w13 ⟨rfl, hb13⟩
        have T13 := T12.below hb13
        have S13 := S12.at hb13
        have hz13 := hb13.size
        have HB13 := hid (HB12.out.trans (hb13.mono (by have := HB12.out.size; omega)))
        have M13 := h1.at HB13.out
        clear T12 S12 ct hb13 c0 c1 c2
        have c0 := T13.cell 0 rfl
        have c1 := T13.cell 1 rfl
        have c2 := T13.cell 2 rfl
        go_wp2_with fail
        refine (c_b10Wide _ bs1 1 1000 _ M13 k1 (by omega) (by omega) (by omega) (by omega)).mono ?_
        rintro e w' ⟨D, rfl, d0, d1, rfl⟩
        have d2 := d1 (by omega)
        clear d1
        have csh := c_impl_ShiftTide a b _ xs D w13 S13 (by omega)
        have hsh := HSH.out D (by first | rfl | trivial) d0 d2
        go_wp2_with fail
        refine csh.mono ?_
        rintro e w14 ⟨u14, rfl, hb14, hS14⟩
        have hz14 := hb14.size
        have B14 := HB13.out.trans (hb14.mono (by have := HB13.out.size; omega))
        obtain ⟨ad14, cp14, rfl⟩ := hS14.1.form
        have x14 := shX_len a b xs D
        have l4B : decide (V1 < W) = false := decide_eq_false (by omega)
        rcases hsh with ⟨f1, f2, f3, f4, f5, f6⟩ | f1
        · rw [f4] at hS14 x14 ⊢
          rw [f1, f2, f3]
          have ct := c_impl_TideAt (a + D) b (.slice ad14 xs.length cp14) xs (t + D) _ ((hS14.1.mono (Nat.zero_le _)).at (show Below w14.heap.size w14 (w14.alloc (.cells #[.int .i64 (a + D), .int .i64 b, .slice ad14 xs.length cp14] 26)) by (repeat' (first | (with_reducible exact Below.refl _ _) | (with_reducible refine Below.alloc ?_ ?_ _) | (with_reducible refine Below.drew ?_) | (with_reducible refine below_drewN ?_ _) | (with_reducible refine Below.setCell ?_ ?_ _) | (with_reducible refine below_via ‹_› ?_ ?_) | (with_reducible refine below_grow ?_ ?_ _ _) | omega | (simp; done) | (simp; omega))))) (by omega)
          rw [f5, f6] at ct
          have wr3 : IntKind.i64.wrap (t + D) = t + D := IntWalk.i64_in _ (by omega)
          have B15 : Below w.heap.size w (w14.alloc (.cells #[.int .i64 (a + D), .int .i64 b, .slice ad14 xs.length cp14] 26)) := B14.alloc B14.size _
          have HB15 := hid B15
          clear f1 f2 f3 f4 f5 f6 hS14 B14 B15 csh hb14
          go_wp2_with fail
          refine ct.mono ?_
          rintro e w16 ⟨rfl, hb16⟩
          have B16 := HB15.out.trans (hb16.mono HB15.out.size)
          clear hb16 ct
          go_wp2_with fail
          go_ret
          exact ⟨by first | rfl | simp, B16⟩
        · rw [f1]
          clear f1 csh hb14 hS14
          go_wp2_with fail
          go_ret
          exact ⟨by first | rfl | simp, B14.alloc B14.size _⟩
  · have hcB : (C1 == 0) = false := by simpa using hc1
    have hcB2 : (C1 != 0) = true := by simpa using hc1
    go_wp2_with fail
    have T9 : Bk (w8.alloc (.cells #[.int .i64 a, .int .i64 b, .slice ad8 xs.length cp8] 26)) bx 26 [.int .i64 a, .int .i64 b, .slice (some ⟨bu, ou, none⟩) xs.length cpv] := T8.alloc _
    have S9 : SlA (w8.alloc (.cells #[.int .i64 a, .int .i64 b, .slice ad8 xs.length cp8] 26)) 0 1 encI (.slice (some ⟨bu, ou, none⟩) xs.length cpv) xs := S8.at (by (repeat' (first | (with_reducible exact Below.refl _ _) | (with_reducible refine Below.alloc ?_ ?_ _) | (with_reducible refine Below.drew ?_) | (with_reducible refine below_drewN ?_ _) | (with_reducible refine Below.setCell ?_ ?_ _) | (with_reducible refine below_via ‹_› ?_ ?_) | (with_reducible refine below_grow ?_ ?_ _ _) | omega | (simp; done) | (simp; omega))))
    have H9 : SlA (w8.alloc (.cells #[.int .i64 a, .int .i64 b, .slice ad8 xs.length cp8] 26)) 0 1 encI (.slice adh L.length cph) L := H8.at (by (repeat' (first | (with_reducible exact Below.refl _ _) | (with_reducible refine Below.alloc ?_ ?_ _) | (with_reducible refine Below.drew ?_) | (with_reducible refine below_drewN ?_ _) | (with_reducible refine Below.setCell ?_ ?_ _) | (with_reducible refine below_via ‹_› ?_ ?_) | (with_reducible refine below_grow ?_ ?_ _ _) | omega | (simp; done) | (simp; omega))))
    have R9 : SlA (w8.alloc (.cells #[.int .i64 a, .int .i64 b, .slice ad8 xs.length cp8] 26)) 0 1 encI (.slice ad8 xs.length cp8) xs := R8.at (by (repeat' (first | (with_reducible exact Below.refl _ _) | (with_reducible refine Below.alloc ?_ ?_ _) | (with_reducible refine Below.drew ?_) | (with_reducible refine below_drewN ?_ _) | (with_reducible refine Below.setCell ?_ ?_ _) | (with_reducible refine below_via ‹_› ?_ ?_) | (with_reducible refine below_grow ?_ ?_ _ _) | omega | (simp; done) | (simp; omega))))
    have B9 : Below w.heap.size w (w8.alloc (.cells #[.int .i64 a, .int .i64 b, .slice ad8 xs.length cp8] 26)) := B8.alloc (by omega) _
    obtain ⟨w9, hw9⟩ : ∃ z, z = w8.alloc (.cells #[.int .i64 a, .int .i64 b, .slice ad8 xs.length cp8] 26) := ⟨_, rfl⟩
    rw [← hw9] at T9 S9 H9 R9 B9 ⊢
    have hz9 : w8.heap.size ≤ w9.heap.size := by rw [hw9]; simp
    clear hw9 T8 S8 H8 R8 B8 t0 t1 t2 gK
    refine (c_impl_SameTide a b _ xs a b _ xs w9 R9 S9).mono ?_
    rintro e w10 ⟨rfl, hb10⟩
    rw [same_self]
    have T10 := T9.below hb10
    have S10 := S9.at hb10
    have H10 := H9.at hb10
    have hz10 := hb10.size
    have B10 : Below w.heap.size w w10 := B9.trans (hb10.mono (by omega))
    clear T9 S9 H9 R9 B9 hb10
    have t0 := T10.cell 0 rfl
    have t1 := T10.cell 1 rfl
    have t2 := T10.cell 2 rfl
    have hsp := HSP.out
    rw [hcB] at hsp
    clear hc1
    by_cases n1 : a ≤ t
    · have n2 : ¬ t ≤ E := fun h => by simp [n1, h] at hsp
      clear hsp
      go_wp2_with fail
      go_loopw [18] (fun i wr => ∃ j : Nat, j ≤ L.length ∧ i = .int .i64 j ∧ Below w10.heap.size w10 wr) (fun i _ => L.length - (intOf i).toNat)
      case atStart => exact ⟨0, Nat.zero_le _, rfl, Below.refl _ _⟩
      case round =>
        obtain ⟨j, hj, rfl, hB⟩ := hrel
        have hzr := hB.size
        have T11 := T10.below hB
        have S11 := S10.at hB
        have HBB := hid (B10.trans (hB.mono (by omega)))
        clear t0 t1 t2
        by_cases hlt : j < L.length
        · have hlI : (j : Int) < L.length := by omega
          obtain ⟨g1, g2, g3, g4⟩ := HHI2.out j hlt
          obtain ⟨_, _, bh, oh, hu', hmh, hadh, hxh⟩ := (H10.at hB).uni
          injection hu' with q1 q2 q3
          subst q1 q3
          obtain ⟨rfl, hbh, -, hch, hmh2⟩ := hadh (by omega)
          have gh := hxh j hlt 0 (by omega)
          simp only [encI, List.getD_cons_zero, Nat.add_zero, Nat.mul_one] at gh
          obtain ⟨X, hX⟩ : ∃ X, X = L[j] := ⟨_, rfl⟩
          rw [← hX] at g1 g2 g3 g4 gh
          have ct := fun (q : Nat) (os : Array Obj) => c_impl_TideAt a b _ xs X (grow (redrawn wr q) os) (S11.below (below_regrown wr q os) (Nat.le_refl _)) (by omega)
          rw [g1] at ct
          have g2' := g2 t
          obtain ⟨VX, hVX⟩ : ∃ z, z = taV a b xs X := ⟨_, rfl⟩
          rw [← HC1.out, ← HV1.out, ← hVX] at g2'
          rw [← hVX] at ct
          have HG2 := hid g2'
          have c0 := T11.cell 0 rfl
          have c1 := T11.cell 1 rfl
          have c2 := T11.cell 2 rfl
          have r0 := cellr c0
          have r1 := cellr c1
          have r2 := cellr c2
          have rh := cellr gh
          have hbw : bx < wr.heap.size := T11.lt
          clear hadh hxh hX hVX g1 g2 g2'
          go_wp2_with fail
          (refine wp_region_quiet_below (by kernel_rfl) (by kernel_rfl) ?_; (repeat (first | go_big_quiet_step ((first | (go_at_call 7; exact regrown_of (ct _ _)))) | quiet_step ((first | (go_at_call 7; exact regrown_of (ct _ _)))))); refine wpQuiet_nil ?_; intro w1 hw'; have hb := below_of_regrown hw'; clear hw'; obtain ⟨hc, hf⟩ := bcell hb; have hz := hb.size; (try simp at hz); (try have hz0 : ∀ b, b < w.heap.size → b < w1.heap.size := fun b h => by omega); (try have hz1 : w.heap.size < w1.heap.size := by omega); (try have hz2 : w.heap.size + 1 < w1.heap.size := by omega); (try have hz3 : w.heap.size + 2 < w1.heap.size := by omega))
          clear r0 r1 r2 rh ct
          go_wp2_with fail
          go_quiet (fail)
          go_wp2_with fail
          go_roundw
          case rel => exact ⟨j + 1, by omega, by go_num, by (repeat' (first | (with_reducible exact Below.refl _ _) | (with_reducible refine Below.alloc ?_ ?_ _) | (with_reducible refine Below.drew ?_) | (with_reducible refine below_drewN ?_ _) | (with_reducible refine Below.setCell ?_ ?_ _) | (with_reducible refine below_via ‹_› ?_ ?_) | (with_reducible refine below_grow ?_ ?_ _ _) | omega | (simp; done) | (simp; omega)))⟩
          case measure => simp [intOf]; omega
        · have hlI : ¬ (j : Int) < L.length := by omega
          go_wp2_with fail
          go_ret
          exact ⟨rfl, HBB.out⟩
    · clear hsp
      go_wp2_with fail
      go_loopw [18] (fun i wr => ∃ j : Nat, j ≤ L.length ∧ i = .int .i64 j ∧ Below w10.heap.size w10 wr) (fun i _ => L.length - (intOf i).toNat)
      case atStart => exact ⟨0, Nat.zero_le _, rfl, Below.refl _ _⟩
      case round =>
        obtain ⟨j, hj, rfl, hB⟩ := hrel
        have hzr := hB.size
        have T11 := T10.below hB
        have S11 := S10.at hB
        have HBB := hid (B10.trans (hB.mono (by omega)))
        clear t0 t1 t2
        by_cases hlt : j < L.length
        · have hlI : (j : Int) < L.length := by omega
          obtain ⟨g1, g2, g3, g4⟩ := HHI2.out j hlt
          obtain ⟨_, _, bh, oh, hu', hmh, hadh, hxh⟩ := (H10.at hB).uni
          injection hu' with q1 q2 q3
          subst q1 q3
          obtain ⟨rfl, hbh, -, hch, hmh2⟩ := hadh (by omega)
          have gh := hxh j hlt 0 (by omega)
          simp only [encI, List.getD_cons_zero, Nat.add_zero, Nat.mul_one] at gh
          obtain ⟨X, hX⟩ : ∃ X, X = L[j] := ⟨_, rfl⟩
          rw [← hX] at g1 g2 g3 g4 gh
          have ct := fun (q : Nat) (os : Array Obj) => c_impl_TideAt a b _ xs X (grow (redrawn wr q) os) (S11.below (below_regrown wr q os) (Nat.le_refl _)) (by omega)
          rw [g1] at ct
          have g2' := g2 t
          obtain ⟨VX, hVX⟩ : ∃ z, z = taV a b xs X := ⟨_, rfl⟩
          rw [← HC1.out, ← HV1.out, ← hVX] at g2'
          rw [← hVX] at ct
          have HG2 := hid g2'
          have c0 := T11.cell 0 rfl
          have c1 := T11.cell 1 rfl
          have c2 := T11.cell 2 rfl
          have r0 := cellr c0
          have r1 := cellr c1
          have r2 := cellr c2
          have rh := cellr gh
          have hbw : bx < wr.heap.size := T11.lt
          clear hadh hxh hX hVX g1 g2 g2'
          go_wp2_with fail
          (refine wp_region_quiet_below (by kernel_rfl) (by kernel_rfl) ?_; (repeat (first | go_big_quiet_step ((first | (go_at_call 7; exact regrown_of (ct _ _)))) | quiet_step ((first | (go_at_call 7; exact regrown_of (ct _ _)))))); refine wpQuiet_nil ?_; intro w1 hw'; have hb := below_of_regrown hw'; clear hw'; obtain ⟨hc, hf⟩ := bcell hb; have hz := hb.size; (try simp at hz); (try have hz0 : ∀ b, b < w.heap.size → b < w1.heap.size := fun b h => by omega); (try have hz1 : w.heap.size < w1.heap.size := by omega); (try have hz2 : w.heap.size + 1 < w1.heap.size := by omega); (try have hz3 : w.heap.size + 2 < w1.heap.size := by omega))
          clear r0 r1 r2 rh ct
          go_wp2_with fail
          go_quiet (fail)
          go_wp2_with fail
          go_roundw
          case rel => exact ⟨j + 1, by omega, by go_num, by (repeat' (first | (with_reducible exact Below.refl _ _) | (with_reducible refine Below.alloc ?_ ?_ _) | (with_reducible refine Below.drew ?_) | (with_reducible refine below_drewN ?_ _) | (with_reducible refine Below.setCell ?_ ?_ _) | (with_reducible refine below_via ‹_› ?_ ?_) | (with_reducible refine below_grow ?_ ?_ _ _) | omega | (simp; done) | (simp; omega)))⟩
          case measure => simp [intOf]; omega
        · have hlI : ¬ (j : Int) < L.length := by omega
          go_wp2_with fail
          go_ret
          exact ⟨rfl, HBB.out⟩

open Go.ChangeShapes Go.WideShapes Go.ChangeAt
theorem own : ownKnob Tryz.prog.godebug = none := by kernel_rfl
theorem laidOut : laidOutB Tryz.prog = true := by kernel_rfl

set_option maxRecDepth 100000 in
theorem lifted (os : Os) (started : os.Started) (H : Type) (enc : TypeId × Value → H) :
    ReturnsInHanded {} Tryz.checked os 3 .any (fun w args => (Rows.fnTidesSpec.pre enc Tryz.prog Tryz.f3 Rows.fnTidesRow.domain false w args ∧ laidMetH Tryz.prog Rows.fnTidesRow.laid w) ∧ sizedMet enc Tryz.prog Tryz.f3 (OpenSpec.ofChange Rows.fnTidesSpec) false w args)
      (Rows.fnTidesSpec.post enc Tryz.prog Tryz.f3 false true false false) := by
  refine returnsInHanded_of_change_shaped_and (C := Tryz.checked) (X := fun w _ => laidMetH Tryz.prog Rows.fnTidesRow.laid w) (fun _ _ _ hh h => h.of_heap hh) own started (by kernel_rfl) Tryz.func3
    (ChangeSpec.witness_shaped (enc := enc) (C := Tryz.checked) (os := os) (X := fun w _ => laidMetH Tryz.prog Rows.fnTidesRow.laid w) false (World.laidAll Tryz.prog os Rows.fnTidesRow.laid) #[.slice none 0 0, .slice none 0 0] 8 (World.laidAll_os _ _ _)
      (World.shaped_of_ZipB (by kernel_rfl) (by kernel_rfl)) (by kernel_rfl) (by kernel_rfl) (by kernel_rfl)
      (by rw [MakeChecks.laidMetH_plain _ _ _ (by kernel_rfl)]; exact laidMet_laidAll _ (by kernel_rfl) (by kernel_rfl))) ?_
  intro W base args ds gs before hval0 hW hcnd _ hL hsh _
  rw [MakeChecks.laidMetH_plain _ _ _ (by kernel_rfl)] at hL
  have hRd : Rd W := rd_of_met hL hsh
  have hval : ∀ (j : Nat) t v, Tryz.f3.params[j]? = some t → args[j]? = some v → Value.okWide Tryz.prog W .any base t v := hval0
  have hW' := hW
  obtain ⟨p, q, hA0, hV, rfl, hfz, hnd⟩ := hW
  have hA : DataW.TrodAll enc Tryz.prog W 0 (fun _ => true) true Tryz.f3.params.toList args.toList ds p := hA0
  rw [Tryz.params3] at hA hval
  obtain ⟨u0, vs0, e0, ds0, p0, q0, hargs, rfl, rfl, t0, r0⟩ := trodAll_cons hA
  obtain ⟨u1, vs1, e1, ds1, p1, q1, rfl, rfl, rfl, t1, r1⟩ := trodAll_cons r0
  obtain ⟨rfl, rfl, rfl⟩ := trodAll_nil r1
  obtain rfl : args = #[u0, u1] := by cases args; simp_all
  obtain ⟨rfl, rfl⟩ := trodVars_none hV
  have t0' := t0
  have lt0 : ∀ x ∈ p0, x.block < W.heap.size := by obtain ⟨m, hm⟩ := t0'; exact DataW.trod_lt m _ _ _ hm
  obtain ⟨xs0, h0, k0⟩ := open_U8S (hval 0 22 u0 rfl rfl) t0
  have t1' := t1
  have lt1 : ∀ x ∈ p1, x.block < W.heap.size := by obtain ⟨m, hm⟩ := t1'; exact DataW.trod_lt m _ _ _ hm
  obtain ⟨xs1, h1, k1⟩ := open_U8S (hval 1 22 u1 rfl rfl) t1
  clear hA0 hval0
  refine (walk u0 xs0 u1 xs1 W h0 k0 h1 k1 hRd).mono fun e W' ⟨he, bel⟩ => ?_
  subst he
  exact ⟨_, rfl, _, _, _, [], _, [], hW', trodAll_mk1 (shut_bool Tryz.underlying4 _), (trodAll_cons_mk (Below.trod laidOut (by kernel_rfl) (of_decide_eq_true (by kernel_rfl)) t0' bel lt0) (trodAll_cons_mk (Below.trod laidOut (by kernel_rfl) (of_decide_eq_true (by kernel_rfl)) t1' bel lt1) trodAll_mk0)), rfl, bel.frame _, fun h => by cases h⟩

theorem cf_inPlace : (Rows.fnTidesRow.inPlace == Tryz.prog.inPlace 3) = true := by kernel_rfl
theorem cf_unfollowed : (Rows.fnTidesRow.unfollowed == Tryz.prog.unfollowed 3) = true := by kernel_rfl
theorem cf_recurses : (Rows.fnTidesRow.recurses == Tryz.prog.recurses 3) = true := by kernel_rfl
theorem cf_named : (Rows.fnTidesRow.named == Tryz.prog.varsNamed 3) = true := by kernel_rfl
theorem cf_lifted : (Rows.fnTidesRow.lifted == Tryz.prog.liftsFinal) = true := pf_lifted
theorem cf_plainKeys : (Rows.fnTidesRow.plainKeys == Tryz.prog.plainKeys) = true := pf_plainKeys
set_option maxRecDepth 100000 in
theorem closed : joinedFacts Tryz.prog 3 Tryz.f3 Rows.fnTidesSpec Rows.fnTidesRow = true := by
  simp only [joinedFacts, cf_inPlace, cf_unfollowed, cf_recurses, cf_named, cf_lifted, cf_plainKeys, pf_stopsHeard, pf_mayEnter, pf_laidOut, pf_mapsRowed, Bool.and_true]
  kernel_rfl
theorem holds : Rows.FnTidesSaid :=
  OpenClaim.holds_of_wide 3 Tryz.f3 rfl rfl rfl rfl rfl rfl rfl ⟨rfl, rfl, rfl, rfl, rfl⟩ rfl rfl rfl rfl rfl (by kernel_rfl) Tryz.func3 closed
    (of_decide_eq_true (by kernel_rfl)) (by unfold Func.isWrapper; first | (rw [if_pos (by decide +kernel)]; kernel_rfl) | (rw [if_neg (by decide +kernel)]; exact ⟨rfl, rfl⟩))
    (fun os started H enc _ => lifted os started H enc)
theorem proved : Rows.FnTidesCardSaid :=
  Claim7.holds_tied_plain_at .later [] _ true _ true holds (fun _ h => by cases h) (by kernel_rfl) (fun _ h => by cases h) fnTides_row_tie rfl ⟨rfl, rfl⟩ (by kernel_rfl) rfl
    (fun f fn hf hfn => by
      obtain rfl : f = 3 := Option.some.inj ((show Tryz.prog.funcNamed Rows.fnTidesRow.func = some 3 by kernel_rfl).symm.trans hf) |>.symm
      obtain rfl : fn = Tryz.f3 := (Option.some.inj (Tryz.func3.symm.trans hfn)).symm
      exact ⟨by kernel_rfl, fun j t ht => by
        rw [Tryz.params3] at ht
        have hm : t ∈ [22, 22] := by simpa using Array.mem_of_getElem? ht
        have hall : ([22, 22].all fun u => !Tryz.prog.wantsStandIn u) = true := by kernel_rfl
        exact (show Tryz.prog.wantsStandIn t = false by simpa using List.all_eq_true.1 hall t hm)⟩)
    (by kernel_rfl)
#print axioms proved

end Go.Proofs.YtabbhlehbhadiaaGreatDoor.lawFnTides
