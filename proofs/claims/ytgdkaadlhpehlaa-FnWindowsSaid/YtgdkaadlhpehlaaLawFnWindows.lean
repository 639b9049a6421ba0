/- 'FnWindows' returns true for every input: it is deep enough exactly in the windows, and the next time is the first of them. No condition. -/
import Derived.Test.YtgdkaadlhpehlaaDrawT
import Derived.Test.YtgdkaadlhpehlaaPlanW
import Derived.Test.YtgdkaadlhpehlaaWinW
import Derived.Deep.RegionHeld3
namespace Go.Proofs.Ytgdkaadlhpehlaa.lawFnWindows
open Go.RowKit Go.Sort
set_option linter.unusedVariables false
set_option maxRecDepth 100000

/-! ### the plain law -/
structure WinsP (a b : Int) (xs : List Int) (d nd t z x : Int) (ps : List (Int × Int)) : Prop where
  t0 : 0 ≤ t
  z1 : z ≤ 143999999
  tz : t ≤ z
  rng : ∀ i, (h : i < ps.length) → t ≤ ps[i].1 ∧ ps[i].1 ≤ ps[i].2 ∧ ps[i].2 ≤ z
  gap : ∀ i j, (hi : i < ps.length) → (hj : j < ps.length) → i < j → ps[i].2 + 1 < ps[j].1
  dac : daC a b xs d (t + x) = 0
  ins : insF ps (t + x) ps.length = decide (nd ≤ daV a b xs d (t + x))
  some : (h : 0 < ps.length) → ndC a b xs d nd t = 0 ∧ ndV a b xs d nd t = ps[0].1
  none : ps.length = 0 → ndC a b xs d nd t = 3 ∨ (ndC a b xs d nd t = 0 ∧ z < ndV a b xs d nd t)
theorem wins_ok {a b : Int} {xs : List Int} {d nd t z : Int} (h : dwC a b xs d nd t z = 0) : 0 ≤ t ∧ t ≤ z ∧ z ≤ 143999999 ∧ ∀ x, 0 ≤ x → x < z - t + 1 → WinsP a b xs d nd t z x (dwP a b xs d nd t z) := by
  unfold dwC at h
  split at h
  · rename_i h1
    split at h
    · rename_i h2
      have h2' := h2
      simp only [dwG, Bool.and_eq_true] at h2
      obtain ⟨g1, g2, g3⟩ := h2
      obtain ⟨l1, l2, l3⟩ := lwG_true g3
      obtain ⟨-, e1, e2, e3, e4, e5, e6, e7, e8⟩ := tideB_true h1
      have b1 := inB_true l1
      have b2 := inB_true l2
      have hps : dwP a b xs d nd t z = winF (deepB a b xs d nd) t (dwN t z) := by rw [dwP, h1, h2']; rfl
      have hok := winF_ok (deepB a b xs d nd) t (dwN t z)
      rw [← hps] at hok
      have hN : ((dwN t z : Nat) : Int) = z - t + 1 := by unfold dwN; omega
      refine ⟨by omega, l3, by omega, fun x hx0 hx1 => ?_⟩
      have hin : inTide a b xs (t + x) = true := inTide_of (by omega) (by omega)
      have hdv : daV a b xs d (t + x) = depthV a b xs d (t + x) := by simp [daV, h1, g1, hin]
      refine ⟨by omega, by omega, l3, fun i hi => by have := hok.rng i hi; omega, hok.gap, by simp [daC, h1, g1, hin], ?_, fun hp => ?_, fun hp => ?_⟩
      · rw [insF_all hok (by omega) (by omega), hdv]; rfl
      · have hf := hok.first (m := ndN a b xs t) (by unfold dwN ndN; omega) hp
        have := nd_some h1 g1 g2 l1 hf
        exact ⟨this.2, this.1⟩
      · cases hf : nextF (deepB a b xs d nd) t (ndN a b xs t) with
        | none => exact .inl (nd_none h1 g1 g2 l1 hf).2
        | some y =>
          have := nd_some h1 g1 g2 l1 hf
          have hy := nextF_past _ t y (dwN t z) hf (hok.none hp)
          exact .inr ⟨this.2, by rw [this.1]; omega⟩
    · omega
  · omega
theorem dwP_bad {a b : Int} {xs : List Int} {d nd t z : Int} (h : dwC a b xs d nd t z ≠ 0) : dwP a b xs d nd t z = [] := by
  unfold dwC at h
  unfold dwP
  cases h1 : tideB a b xs
  · rfl
  · cases h2 : dwG a b xs d nd t z
    · rfl
    · rw [h1, h2] at h; simp at h

/-! ### the walk -/
def LongR (n : Nat) (w : World) (e : Ending) (w' : World) : Prop := ∃ b : Bool, e = .returned (.bool b) ∧ (b = false → n ≤ 1048576) ∧ w = w'
theorem c_b10Long (n : Nat) (ad : Option Addr) (c : Nat) (w : World) : Calls Try.prog 15 #[.slice ad n c] w (LongR n w) := by
  go_enter Try.func15, Try.ntmps15
  go_wp2
  all_goals (go_ret; refine ⟨_, rfl, fun h => ?_, rfl⟩; first | (simp at h; done) | (simp at h; omega))
def InN (n : Int) (w : World) (e : Ending) (w' : World) : Prop := ∃ x : Int, e = .returned (.int .i64 x) ∧ 0 ≤ x ∧ (1 ≤ n → x < n) ∧ w = w'
theorem c_b10At (v : Value) (bs : List Int) (i n : Int) (w : World) (h : SlA w 0 1 encU v bs) (hb : ∀ x ∈ bs, 0 ≤ x ∧ x ≤ 255) (hi0 : 0 ≤ i) (hi1 : i ≤ 1000) (hn : n ≤ 1000000000) :
    Calls Try.prog 61 #[v, .int .i64 i, .int .i64 n] w (InN n w) := by
  obtain ⟨ad, cap, b, off, rfl, hm, had, hx⟩ := h.uni
  by_cases h1 : n ≤ 1
  · go_enter Try.func61, Try.ntmps61
    go_wp2_with fail
    go_ret
    exact ⟨_, rfl, by omega, fun _ => by omega, rfl⟩
  · by_cases hl : i < bs.length
    · obtain ⟨k, rfl⟩ : ∃ k : Nat, i = k := ⟨i.toNat, by omega⟩
      have hk : k < bs.length := by omega
      obtain ⟨rfl, hbl, -, hcc, hcm⟩ := had (by omega)
      have x0 := hx k hk 0 (by omega)
      simp only [encU, List.getD_cons_zero, Nat.mul_one, Nat.add_zero] at x0
      have hb8 := hb bs[k] (List.getElem_mem hk)
      clear hx had h
      go_enter Try.func61, Try.ntmps61
      go_wp2_with fail
      go_ret
      exact ⟨_, rfl, Int.emod_nonneg _ (by omega), fun _ => Int.emod_lt_of_pos _ (by omega), rfl⟩
    · clear hx had h
      go_enter Try.func61, Try.ntmps61
      go_wp2_with fail
      go_ret
      exact ⟨_, rfl, Int.emod_nonneg _ (by omega), fun _ => Int.emod_lt_of_pos _ (by omega), rfl⟩
theorem c_b10Wide (v : Value) (bs : List Int) (i n : Int) (w : World) (h : SlA w 0 1 encU v bs) (hb : ∀ x ∈ bs, 0 ≤ x ∧ x ≤ 255) (hi0 : 0 ≤ i) (hi1 : i ≤ 900) (h1 : 1 ≤ n) (hn : n ≤ 1000000000) :
    Calls Try.prog 18 #[v, .int .i64 i, .int .i64 n] w (InN n w) := by
  go_enter Try.func18, Try.ntmps18
  go_wp2_with fail
  refine (c_b10At v bs i 256 w h hb hi0 (by omega) (by omega)).mono ?_
  rintro e w' ⟨x, rfl, x0, x1, rfl⟩
  have x2 := x1 (by omega)
  clear x1
  go_wp2_with fail
  refine (c_b10At v bs (i + 1) 256 w h hb (by omega) (by omega) (by omega)).mono ?_
  rintro e w' ⟨y, rfl, y0, y1, rfl⟩
  have y2 := y1 (by omega)
  clear y1
  go_wp2_with fail
  go_ret
  exact ⟨_, rfl, Int.emod_nonneg _ (by omega), fun _ => Int.emod_lt_of_pos _ (by omega), rfl⟩
theorem insF_t {ps : List (Int × Int)} {x : Int} {n : Nat} (h : n < ps.length) (h1 : ps[n].1 ≤ x) (h2 : x ≤ ps[n].2) : insF ps x (n + 1) = true := by rw [insF_succ h]; simp [h1, h2]
theorem insF_f {ps : List (Int × Int)} {x : Int} {n : Nat} (h : n < ps.length) (h1 : ¬ (ps[n].1 ≤ x ∧ x ≤ ps[n].2)) : insF ps x (n + 1) = insF ps x n := by
  rw [insF_succ h]
  have : decide (ps[n].1 ≤ x ∧ x ≤ ps[n].2) = false := by simpa using h1
  rw [this, Bool.or_false]
def LoopW (W : World) (ps : List (Int × Int)) (tm : Int) (ins i : Value) (wr : World) : Prop :=
  ∃ j : Nat, i = .int .i64 j ∧ j ≤ ps.length ∧ ins = .bool (insF ps tm j) ∧ Below W.heap.size W wr
set_option maxHeartbeats 4000000 in
theorem walk (v0 : Value) (bs0 : List Int) (v1 : Value) (bs1 : List Int) (w : World) (h0 : SlA w 0 1 encU v0 bs0) (k0 : ∀ x ∈ bs0, 0 ≤ x ∧ x ≤ 255) (h1 : SlA w 0 1 encU v1 bs1) (k1 : ∀ x ∈ bs1, 0 ≤ x ∧ x ≤ 255) :
    Calls Try.prog 4 #[v0, v1] w fun e w' => e = .returned (.bool true) ∧ Below w.heap.size w w' := by
  obtain ⟨ad0, cp0, rfl⟩ := h0.form
  obtain ⟨ad1, cp1, rfl⟩ := h1.form
  go_enter Try.func4, Try.ntmps4
  go_wp2_with fail
  refine (c_b10Long _ _ _ _).mono ?_
  rintro e w' ⟨bb, rfl, hlen, rfl⟩
  cases bb with
  | true =>
    go_wp2_with fail
    go_ret
    exact ⟨rfl, Below.refl _ _⟩
  | false =>
  have hl0 := hlen rfl
  clear hlen
  go_wp2_with fail
  refine (c_b10Long _ _ _ _).mono ?_
  rintro e w' ⟨bb, rfl, hlen, rfl⟩
  cases bb with
  | true =>
    go_wp2_with fail
    go_ret
    exact ⟨rfl, Below.refl _ _⟩
  | false =>
  have hl1 := hlen rfl
  clear hlen
  go_wp2_with fail
  refine (c_DrawDepthWindows _ bs0 _ h0 hl0 k0).mono ?_
  rintro e w1 ⟨a, b, v, xs, d, nd, t, z, rfl, hb1, hS1, hxl⟩
  have hz1 := hb1.size
  obtain ⟨adv, cpv, rfl⟩ := hS1.form
  go_wp2_with fail
  have T2 : Bk (w1.alloc (.cells #[.int .i64 a, .int .i64 b, .slice adv xs.length cpv] 35)) w1.heap.size 35 [.int .i64 a, .int .i64 b, .slice adv xs.length cpv] := Bk.new _ _ _
  have S2 : SlA (w1.alloc (.cells #[.int .i64 a, .int .i64 b, .slice adv xs.length cpv] 35)) 0 1 encI (.slice adv xs.length cpv) xs := hS1.at (by (repeat' (first | (with_reducible exact Below.refl _ _) | (with_reducible refine Below.alloc ?_ ?_ _) | (with_reducible refine Below.drew ?_) | (with_reducible refine below_drewN ?_ _) | (with_reducible refine Below.setCell ?_ ?_ _) | (with_reducible refine below_via ‹_› ?_ ?_) | (with_reducible refine below_grow ?_ ?_ _ _) | omega | (simp; done) | (simp; omega))))
  have B2 : Below w.heap.size w (w1.alloc (.cells #[.int .i64 a, .int .i64 b, .slice adv xs.length cpv] 35)) := hb1.alloc hz1 _
  have M2 : SlA (w1.alloc (.cells #[.int .i64 a, .int .i64 b, .slice adv xs.length cpv] 35)) 0 1 encU (.slice ad1 bs1.length cp1) bs1 := h1.at B2
  refine (c_impl_DepthWindows a b _ xs d nd t z _ S2 (by omega)).mono ?_
  rintro e w3 ⟨u, gs, rfl, hb3, hS3, hW3⟩
  have hz3 := hb3.size
  rw [World.size_alloc] at hz3
  have T3 := T2.below hb3
  have S3 := S2.at hb3
  have M3 := M2.at hb3
  have B3 : Below w.heap.size w w3 := B2.trans (hb3.mono (by rw [World.size_alloc]; omega))
  obtain ⟨adu, cpu, rfl⟩ := hS3.1.form
  have hS3' : SlO w3 0 1 encG (.slice adu gs.length cpu) gs := hS3.mono (Nat.zero_le _)
  have hW3' : WinC w3 0 (.slice adu gs.length cpu) gs (dwP a b xs d nd t z) := hW3.mono (Nat.zero_le _)
  clear T2 S2 M2 B2 hb1 hS1 hb3 hS3 hW3 h0 h1
  by_cases hc : dwC a b xs d nd t z = 0
  · obtain ⟨q1, q2, q3, hall⟩ := wins_ok hc
    rw [hc]
    obtain ⟨ps, hps⟩ : ∃ ps, ps = dwP a b xs d nd t z := ⟨_, rfl⟩
    rw [← hps] at hW3' hall
    have hgl := hW3'.len
    have HA := hid hall
    clear hc hps hall
    go_wp2_with fail
    refine (c_b10Wide _ bs1 0 (z - t + 1) _ M3 k1 (by omega) (by omega) (by omega) (by omega)).mono ?_
    rintro e w' ⟨x, rfl, x0, x1, rfl⟩
    have x2 := x1 (by omega)
    have P := HA.out x x0 x2
    clear x1
    have t0 := T3.cell 0 rfl
    have t1 := T3.cell 1 rfl
    have t2 := T3.cell 2 rfl
    have HGL := hid hgl
    have hgb : (gs.length : Int) ≤ 9223372036854775807 := by obtain ⟨_, _, _, _, _, q, _⟩ := hS3'.1.uni; omega
    clear hgl
    go_wp2_with fail
    have cd := c_impl_DepthAt a b (.slice adv xs.length cpv) xs d (t + x) w3 S3 (by omega)
    rw [P.dac] at cd
    obtain ⟨D, hD⟩ : ∃ z, daV a b xs d (t + x) = z := ⟨_, rfl⟩
    rw [hD] at cd
    have HI := hid P.ins
    rw [hD] at HI
    refine cd.mono ?_
    rintro e w4 ⟨rfl, hb4⟩
    have T4 := T3.below hb4
    have S4 := S3.at hb4
    have G4 := hS3'.below hb4 (Nat.le_refl _)
    have W4 := hW3'.below hb4
    have B4 : Below w.heap.size w w4 := B3.trans (hb4.mono (by have := B3.size; omega))
    clear T3 S3 M3 hS3' hW3' B3 hb4 t0 t1 t2 cd hD
    have t0 := T4.cell 0 rfl
    have t1 := T4.cell 1 rfl
    have t2 := T4.cell 2 rfl
    go_wp2_with fail
    refine (c_impl_NextDeep a b _ xs d nd t _ S4 (by omega)).mono ?_
    rintro e w5 ⟨rfl, hb5⟩
    have G5 := G4.below hb5 (Nat.le_refl _)
    have W5 := W4.below hb5
    have B5 : Below w.heap.size w w5 := B4.trans (hb5.mono (by have := B4.size; omega))
    obtain ⟨NV, hNV⟩ : ∃ z, ndV a b xs d nd t = z := ⟨_, rfl⟩
    obtain ⟨NC, hNC⟩ : ∃ z, ndC a b xs d nd t = z := ⟨_, rfl⟩
    have p1 := P.rng
    have p2 := P.gap
    have p3 := P.some
    have p4 := P.none
    rw [hNV, hNC] at p3 p4
    rw [hNV, hNC]
    have H1 := hid p1
    have H2 := hid p2
    have H3 := hid p3
    have H4 := hid p4
    clear T4 S4 G4 W4 B4 hb5 t0 t1 t2 hNV hNC p1 p2 p3 p4 P HA
    go_wp2_with fail
    go_loopw [17, 18] (fun ins i wr => LoopW w5 ps (t + x) ins i wr) (fun _ i _ => ps.length - (intOf i).toNat)
    case atStart => exact ⟨0, rfl, Nat.zero_le _, rfl, Below.refl _ _⟩
    case round =>
      obtain ⟨j, rfl, hj, rfl, hBel⟩ := hrel
      by_cases hlt : j < ps.length
      · have hjg : j < gs.length := by have := HGL.out; omega
        have hjI : (j : Int) < gs.length := by omega
        obtain ⟨bu, ou, rfl, hcc, hcm, hbu, hxu⟩ := SlA.open1 (G5.1.at hBel) (by omega)
        have Wr := W5.below hBel
        have y0 := hxu j hjg 0 (by omega)
        have c0 := Wr.c0 j hjg hlt
        have c1 := Wr.c1 j hjg hlt
        have gl := (Wr.lo j hjg).2
        simp only [encG, rowV, List.getD_cons_zero, Nat.mul_one, Nat.add_zero] at y0
        obtain ⟨r1, r2, r3⟩ := H1.out j hlt
        have s1 : decide (ps[j].2 < ps[j].1) = false := by simpa using r2
        have s2 : decide (ps[j].1 < t) = false := by simpa using r1
        have s3 : decide (z < ps[j].2) = false := by simpa using r3
        have hltI : (j : Int) < ps.length := by omega
        by_cases hj0 : 0 < j
        · have hk : j - 1 < gs.length := by omega
          have hkp : j - 1 < ps.length := by omega
          have z0 := hxu (j - 1) hk 0 (by omega)
          have e1 := Wr.c1 (j - 1) hk hkp
          have gl2 := (Wr.lo (j - 1) hk).2
          simp only [encG, rowV, List.getD_cons_zero, Nat.mul_one, Nat.add_zero] at z0
          have hgap := H2.out (j - 1) j hkp hlt (by omega)
          have rk := H1.out (j - 1) hkp
          obtain ⟨C, hC⟩ : ∃ C, C = ps[j - 1].2 := ⟨_, rfl⟩
          rw [← hC] at e1 hgap rk
          have s4 : decide ((0 : Int) < (j : Int)) = true := by simpa using hj0
          have s4' : decide (0 < j) = true := by simpa using hj0
          have s5 : decide (ps[j].1 ≤ C + 1) = false := by simpa using hgap
          have hw1 : IntKind.i64.wrap ((j : Int) - 1) = (j : Int) - 1 := IntWalk.i64_in _ (by omega)
          have hw2 : IntKind.i64.wrap (C + 1) = C + 1 := IntWalk.i64_in _ (by omega)
          have hw3 : ((j : Int) - 1).toNat = j - 1 := by omega
          have hw4 : (0 : Int) ≤ (j : Int) - 1 := by omega
          have hw5 : (j : Int) - 1 < ps.length := by omega
          clear hxu hC
          go_wp2_with fail
          go_quiet (fail)
          clear s1 s2 s3 s4 s4' s5 hw1 hw2 hw3 hw4 hw5 z0 e1
          obtain ⟨A, hA⟩ : ∃ A, A = ps[j].1 := ⟨_, rfl⟩
          obtain ⟨B, hB⟩ : ∃ B, B = ps[j].2 := ⟨_, rfl⟩
          rw [← hA] at c0
          rw [← hB] at c1
          have HAB := hid (And.intro hA hB)
          obtain ⟨ins, hins⟩ : ∃ q, insF ps (t + x) j = q := ⟨_, rfl⟩
          rw [hins]
          have HN := hid hins
          clear hA hB hins
          cases ins
          · by_cases hin : A ≤ t + x ∧ t + x ≤ B
            · obtain ⟨i1, i2⟩ := hin
              go_wp2_with fail
              go_roundw
              case rel => exact ⟨j + 1, by go_num, by omega, by rw [insF_t hlt (by rw [← HAB.out.1]; exact i1) (by rw [← HAB.out.2]; exact i2)], below_drewN hBel _⟩
              case measure => simp [intOf]; omega
            · have hE := insF_f hlt (x := t + x) (by rw [← HAB.out.1, ← HAB.out.2]; exact hin)
              have HE := hid (hE.trans HN.out)
              clear hE
              by_cases i1 : A ≤ t + x
              · have i2 : B < t + x := by omega
                clear hin
                go_wp2_with fail
                go_roundw
                case rel => exact ⟨j + 1, by go_num, by omega, by rw [HE.out]; try exact congrArg Value.bool (decide_eq_false (by omega)), below_drewN hBel _⟩
                case measure => simp [intOf]; omega
              · clear hin
                go_wp2_with fail
                go_roundw
                case rel => exact ⟨j + 1, by go_num, by omega, by rw [HE.out]; try exact congrArg Value.bool (decide_eq_false (by omega)), below_drewN hBel _⟩
                case measure => simp [intOf]; omega
          · have hE : insF ps (t + x) (j + 1) = true := by rw [insF_succ hlt, HN.out]; rfl
            have HE := hid hE
            clear hE
            go_wp2_with fail
            go_roundw
            case rel => exact ⟨j + 1, by go_num, by omega, by rw [HE.out]; try exact congrArg Value.bool (decide_eq_false (by omega)), below_drewN hBel _⟩
            case measure => simp [intOf]; omega
        · have s4 : decide ((0 : Int) < (j : Int)) = false := by simpa using hj0
          have s4' : decide (0 < j) = false := by simpa using hj0
          clear hxu
          go_wp2_with fail
          go_quiet (fail)
          clear s1 s2 s3 s4 s4'
          obtain ⟨A, hA⟩ : ∃ A, A = ps[j].1 := ⟨_, rfl⟩
          obtain ⟨B, hB⟩ : ∃ B, B = ps[j].2 := ⟨_, rfl⟩
          rw [← hA] at c0
          rw [← hB] at c1
          have HAB := hid (And.intro hA hB)
          obtain ⟨ins, hins⟩ : ∃ q, insF ps (t + x) j = q := ⟨_, rfl⟩
          rw [hins]
          have HN := hid hins
          clear hA hB hins
          cases ins
          · by_cases hin : A ≤ t + x ∧ t + x ≤ B
            · obtain ⟨i1, i2⟩ := hin
              go_wp2_with fail
              go_roundw
              case rel => exact ⟨j + 1, by go_num, by omega, by rw [insF_t hlt (by rw [← HAB.out.1]; exact i1) (by rw [← HAB.out.2]; exact i2)], below_drewN hBel _⟩
              case measure => simp [intOf]; omega
            · have hE := insF_f hlt (x := t + x) (by rw [← HAB.out.1, ← HAB.out.2]; exact hin)
              have HE := hid (hE.trans HN.out)
              clear hE
              by_cases i1 : A ≤ t + x
              · have i2 : B < t + x := by omega
                clear hin
                go_wp2_with fail
                go_roundw
                case rel => exact ⟨j + 1, by go_num, by omega, by rw [HE.out]; try exact congrArg Value.bool (decide_eq_false (by omega)), below_drewN hBel _⟩
                case measure => simp [intOf]; omega
              · clear hin
                go_wp2_with fail
                go_roundw
                case rel => exact ⟨j + 1, by go_num, by omega, by rw [HE.out]; try exact congrArg Value.bool (decide_eq_false (by omega)), below_drewN hBel _⟩
                case measure => simp [intOf]; omega
          · have hE : insF ps (t + x) (j + 1) = true := by rw [insF_succ hlt, HN.out]; rfl
            have HE := hid hE
            clear hE
            go_wp2_with fail
            go_roundw
            case rel => exact ⟨j + 1, by go_num, by omega, by rw [HE.out]; try exact congrArg Value.bool (decide_eq_false (by omega)), below_drewN hBel _⟩
            case measure => simp [intOf]; omega
      · have hjl : j = ps.length := by omega
        subst hjl
        have hI := HI.out
        rw [hI]
        have hltI : ¬ ((ps.length : Nat) : Int) < ps.length := by omega
        have HBe := hid hBel
        by_cases hp0 : 0 < ps.length
        · obtain ⟨n1, n2⟩ := H3.out hp0
          have hg0 : 0 < gs.length := by have := HGL.out; omega
          obtain ⟨bu, ou, rfl, hcc, hcm, hbu, hxu⟩ := SlA.open1 (G5.1.at hBel) (by omega)
          have Wr := W5.below hBel
          have y0 := hxu 0 hg0 0 (by omega)
          have c0 := Wr.c0 0 hg0 hp0
          have gl := (Wr.lo 0 hg0).2
          simp only [encG, rowV, List.getD_cons_zero, Nat.zero_mul, Nat.add_zero] at y0
          have hpI : (0 : Int) < ps.length := by omega
          subst n2
          subst n1
          clear hxu hBel hI
          cases hdec : decide (nd ≤ D)
          all_goals
            go_wp2_with fail
            go_ret
            exact ⟨rfl, B5.trans (HBe.out.mono B5.size)⟩
        · have hp1 : ps.length = 0 := by omega
          have h4 := H4.out hp1
          have hpI : ¬ (0 : Int) < ps.length := by omega
          have hpB : decide (0 < ps.length) = false := by simpa using hp0
          clear hBel hI hp1
          rcases h4 with rfl | ⟨rfl, hNz⟩
          all_goals
            cases hdec : decide (nd ≤ D)
            all_goals
              go_wp2_with fail
              go_ret
              exact ⟨rfl, B5.trans (HBe.out.mono B5.size)⟩
  · have hp := dwP_bad hc
    rw [hp] at hW3'
    have hg0 : gs.length = 0 := hW3'.len
    have hne : (dwC a b xs d nd t z != 0) = true := by simpa using hc
    rw [hg0]
    clear hp hc hW3' hS3'
    go_wp2_with fail
    go_ret
    exact ⟨rfl, B3⟩

open Go.ChangeShapes Go.WideShapes Go.ChangeAt
theorem own : ownKnob Try.prog.godebug = none := by kernel_rfl
theorem laidOut : laidOutB Try.prog = true := by kernel_rfl

theorem lifted (os : Os) (started : os.Started) (H : Type) (enc : TypeId × Value → H) :
    ReturnsInHanded {} Try.checked os 4 .any (Rows.fnWindowsSpec.pre6 enc Try.prog Try.f4 Rows.fnWindowsRow.domain false) (Rows.fnWindowsSpec.post enc Try.prog Try.f4 false true false false) := by
  refine returnsInHanded_of_change (C := Try.checked) own started (by kernel_rfl) Try.func4
    (ChangeSpec.witness6 (enc := enc) (C := Try.checked) false ⟨#[], #[.slice none 0 0, .slice none 0 0], []⟩ 8 (by kernel_rfl) (by kernel_rfl) (by kernel_rfl) (by kernel_rfl)) ?_
  intro W base args ds gs before hval0 hW hcnd _
  have hval : ∀ (j : Nat) t v, Try.f4.params[j]? = some t → args[j]? = some v → Value.okWide Try.prog W .any base t v := hval0
  have hW' := hW
  obtain ⟨p, q, hA0, hV, rfl, hfz, hnd⟩ := hW
  have hA : DataW.TrodAll enc Try.prog W 0 (fun _ => true) true Try.f4.params.toList args.toList ds p := hA0
  rw [Try.params4] at hA hval
  obtain ⟨u0, vs0, e0, ds0, p0, q0, hargs, rfl, rfl, t0, r0⟩ := trodAll_cons hA
  obtain ⟨u1, vs1, e1, ds1, p1, q1, rfl, rfl, rfl, t1, r1⟩ := trodAll_cons r0
  obtain ⟨rfl, rfl, rfl⟩ := trodAll_nil r1
  obtain rfl : args = #[u0, u1] := by cases args; simp_all
  obtain ⟨rfl, rfl⟩ := trodVars_none hV
  have t0' := t0
  have lt0 : ∀ x ∈ p0, x.block < W.heap.size := by obtain ⟨m, hm⟩ := t0'; exact DataW.trod_lt m _ _ _ hm
  obtain ⟨xs0, h0, k0⟩ := open_U8S (hval 0 31 u0 rfl rfl) t0
  have t1' := t1
  have lt1 : ∀ x ∈ p1, x.block < W.heap.size := by obtain ⟨m, hm⟩ := t1'; exact DataW.trod_lt m _ _ _ hm
  obtain ⟨xs1, h1, k1⟩ := open_U8S (hval 1 31 u1 rfl rfl) t1
  clear hA0 hval0
  refine (walk u0 xs0 u1 xs1 W h0 k0 h1 k1).mono fun e W' ⟨he, bel⟩ => ?_
  subst he
  exact ⟨_, rfl, _, _, _, [], _, [], hW', trodAll_mk1 (shut_bool Try.underlying4 _), (trodAll_cons_mk (Below.trod laidOut (by kernel_rfl) (of_decide_eq_true (by kernel_rfl)) t0' bel lt0) (trodAll_cons_mk (Below.trod laidOut (by kernel_rfl) (of_decide_eq_true (by kernel_rfl)) t1' bel lt1) trodAll_mk0)), rfl, bel.frame _, fun h => by cases h⟩

theorem proved : Rows.FnWindowsSaid :=
  OpenClaim.holds_of_wide 4 Try.f4 rfl rfl rfl rfl rfl rfl rfl ⟨rfl, rfl, rfl, rfl, rfl⟩ rfl rfl rfl rfl rfl (by kernel_rfl) Try.func4 (by kernel_rfl)
    (of_decide_eq_true (by kernel_rfl)) (by unfold Func.isWrapper; first | (rw [if_pos (by decide +kernel)]; kernel_rfl) | (rw [if_neg (by decide +kernel)]; exact ⟨rfl, rfl⟩))
    (fun os started H enc _ => lifted os started H enc)
#print axioms proved
end Go.Proofs.Ytgdkaadlhpehlaa.lawFnWindows
