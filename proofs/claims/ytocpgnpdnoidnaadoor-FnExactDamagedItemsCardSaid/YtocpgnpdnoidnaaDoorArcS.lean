/- The archive's bytes read, the reference's side: LoadItems. -/
import Derived.Test.YtocpgnpdnoidnaaDoorArcD
import Derived.Test.YtocpgnpdnoidnaaDoorArcP
namespace Go.Proofs.YtocpgnpdnoidnaaDoor
open Go.RowKit Go.Sort
set_option linter.unusedVariables false
set_option maxRecDepth 100000

theorem acc_new {α : Type} {e : TypeId} {n : Nat} (enc : α → List Value) {w W0 : World} (h : Below w.heap.size w W0) : Acc w w.heap.size e n enc (W0.alloc (.cells #[] e)) (.slice (some ⟨W0.heap.size, 0, none⟩) 0 0) ([] : List α) := by
  have hs := h.size
  have hb : Below w.heap.size w (W0.alloc (.cells #[] e)) := h.alloc hs _
  refine ⟨⟨by simp, .inr ⟨W0.heap.size, 0, #[], rfl, hs, heap_alloc_new _ _, Nat.le_refl _, Nat.zero_le _, by simp, by simp⟩⟩, ⟨hb.os, hb.tape, hb.output, hb.size, fun k hk _ => hb.block k hk⟩, fun b hb => by simp [Value.ownBlock] at hb; exact .inr (by omega), Nat.le_refl _⟩
theorem Acc.grown {α : Type} {W w w' : World} {g0 n : Nat} {e : TypeId} {enc : α → List Value} {v : Value} {xs : List α} {ub : Option Nat} (h : Acc W g0 e n enc w v xs) (hg : w.grownBy w' ub) (hne : ub ≠ v.ownBlock ∨ v.ownBlock = none) (hW : ∀ b, ub = some b → W.heap.size ≤ b) : Acc W g0 e n enc w' v xs := by
  refine ⟨h.own.kept hg ?_, ⟨hg.os.trans h.fr.os, hg.tape.trans h.fr.tape, hg.output.trans h.fr.output, Nat.le_trans h.fr.size hg.size, fun k hk hne => ?_⟩, h.blk, h.low⟩
  · rcases hne with hne | hne
    · exact .inr (fun e => hne e.symm)
    · exact .inl hne
  · rw [hg.block k (Nat.lt_of_lt_of_le hk h.fr.size) (fun e => by have := hW k e.symm; omega)]
    exact h.fr.block k hk hne
theorem acc_high {α : Type} {W w : World} {n : Nat} {e : TypeId} {enc : α → List Value} {v : Value} {xs : List α} (h : Acc W W.heap.size e n enc w v xs) : ∀ b, v.ownBlock = some b → W.heap.size ≤ b := fun b hb => by
  rcases h.blk b hb with h | h <;> omega
theorem line_headV {l : List UInt8} (h : nlO l = none) {A : Type} (stp : A → ItemD → Bool → Int × A) (a : A) : headV l = .tuple #[.int .i64 0, .int .i64 0, .int .i64 11] ∧ arcL stp a l = (11, a) := ⟨headV_none h, arcL_none h⟩
/-- the first line, for the walk: a code, or a number and a place -/
theorem head_cases {A : Type} (stp : A → ItemD → Bool → Int × A) (a : A) (l : List UInt8) : (∃ c, c ≠ 0 ∧ headV l = .tuple #[.int .i64 0, .int .i64 0, .int .i64 c] ∧ arcL stp a l = (c, a)) ∨ ∃ n p : Nat, n ≤ 40 ∧ p ≤ l.length ∧ headV l = .tuple #[.int .i64 (n : Int), .int .i64 (p : Int), .int .i64 0] ∧ arcL stp a l = arcF stp n a (l.drop p) := by
  cases h : nlO l with
  | none => exact .inl ⟨11, by decide, headV_none h, arcL_none h⟩
  | some j =>
    cases h2 : hdL (l.take j) with
    | none => exact .inl ⟨9, by decide, headV_bad h h2, arcL_bad h h2⟩
    | some n => exact .inr ⟨n, j + 1, hdL_max h2, by have := (nlO_some h).1; omega, headV_go h h2, arcL_go h h2⟩
--@WALKS
set_option maxHeartbeats 8000000 in
theorem c_spec_LoadItems (s : ByteArray) (w : World) (hs : (s.size : Int) ≤ 1048576) :
    Calls Tryd.prog 16 #[.string s] w (ItemsP (loadR s.data.toList) (loadC s.data.toList) w) := by
  obtain ⟨i0, hi, iz0, iz1, iz2⟩ := info_parts info_Itm
  have ch := fun w' => c_l24Head s w' hs
  have HCV : Hid (∀ c a, arcL loadStp [] s.data.toList = (c, a) → loadC s.data.toList = c ∧ loadR s.data.toList = if c = 0 then a else []) := fun c a h => by unfold loadR loadC; rw [h]; exact ⟨rfl, rfl⟩
  rcases head_cases loadStp ([] : List ItemD) s.data.toList with ⟨c, hc, hv, hl⟩ | ⟨n, p0, hn40, hp0, hv, hl⟩
  · have HV := hid hv
    obtain ⟨e1, e2⟩ := HCV.out c _ hl
    rw [if_neg hc] at e2
    have HR := hid (And.intro e1 e2)
    have hcb : (c != 0) = true := by simpa using hc
    have HC0 := hid hc
    clear hv hl e1 e2 hc
    go_enter Tryd.func16, Tryd.ntmps16
    go_wp2_with fail
    refine (ch _).mono ?_
    rintro e w1 ⟨hb1, rfl⟩
    rw [HV.out]
    clear ch
    go_wp2_with fail
    go_ret2
    rw [HR.out.1]
    exact itemsP_none (by (repeat' (first | (with_reducible exact Below.refl _ _) | (with_reducible refine Below.alloc ?_ ?_ _) | (with_reducible refine Below.drew ?_) | (with_reducible refine below_drewN ?_ _) | (with_reducible refine Below.setCell ?_ ?_ _) | (with_reducible refine below_via ‹_› ?_ ?_) | (with_reducible refine below_grow ?_ ?_ _ _) | omega | (simp; done) | (simp; omega)))) HR.out.2
  · have HV := hid hv
    have HL := hid hl
    rw [data_len] at hp0
    clear hv hl
    go_enter Tryd.func16, Tryd.ntmps16
    go_wp2_with fail
    refine (ch _).mono ?_
    rintro e w1 ⟨hb1, rfl⟩
    rw [HV.out]
    have A1 := acc_new (α := ItemD) (e := 55) (n := 2) encItem hb1
    clear ch hb1
    go_wp2_with fail
    go_loopw [5, 7, 8] (fun q u i wr => ∃ (k p : Nat) (xs : List ItemD), k ≤ n ∧ i = .int .i64 k ∧ q = .int .i64 p ∧ p ≤ s.size ∧ Hid (arcF loadStp (n - k) xs (s.data.toList.drop p) = arcL loadStp [] s.data.toList) ∧ xs.length ≤ k ∧ Acc w w.heap.size 55 2 encItem wr u xs) (fun _ _ i _ => n - (intOf i).toNat)
    case atStart => exact ⟨0, p0, [], Nat.zero_le _, rfl, rfl, hp0, hid (by rw [HL.out]; rfl), Nat.le_refl _, A1⟩
    case round =>
      clear A1 HL
      obtain ⟨k, p, xs, hk, rfl, rfl, hp, hO, hxl, hA⟩ := hrel
      have hBr : Below w.heap.size w wr := hA.keep
      have hzr := hBr.size
      by_cases hlt : k < n
      · have hlI : (k : Int) < n := by omega
        have cf := fun w' => c_l24Frame s p w' hs hp
        have hnk : n - k = (n - (k + 1)) + 1 := by omega
        rcases frL_cases (s.data.toList.drop p) with ⟨h1, h2⟩ | ⟨f, hf, hft, hfk, hf0, hfu⟩
        · obtain ⟨c, hc⟩ : ∃ c, frL (s.data.toList.drop p) = (none, c) := ⟨(frL (s.data.toList.drop p)).2, by rw [← h1]⟩
          have hcne : c ≠ 0 := by rw [hc] at h2; exact h2
          have HR := hid (show arcL loadStp [] s.data.toList = (c, xs) by rw [← hO.out, hnk, arcF_bad hc])
          have hcb : (c != 0) = true := by simpa using hcne
          have HC := hid hc
          have HCN := hid hcne
          clear hc h1 h2 hnk hcne
          go_wp2_with fail
          refine (cf _).mono ?_
          intro e w3 h3
          obtain ⟨hb3, rfl⟩ := frm_none h3 HC.out
          have hz3 := hb3.size
          clear h3 cf
          go_wp2_with fail
          go_ret2
          rw [(HCV.out c xs HR.out).1]
          exact itemsP_none (by (repeat' (first | (with_reducible exact Below.refl _ _) | (with_reducible refine Below.alloc ?_ ?_ _) | (with_reducible refine Below.drew ?_) | (with_reducible refine below_drewN ?_ _) | (with_reducible refine Below.setCell ?_ ?_ _) | (with_reducible refine below_via ‹_› ?_ ?_) | (with_reducible refine below_grow ?_ ?_ _ _) | omega | (simp; done) | (simp; omega)))) (by rw [(HCV.out c xs HR.out).2, if_neg HCN.out])
        · have HF := hid hf
          obtain ⟨d, hd⟩ : ∃ d, d = f.it := ⟨_, rfl⟩
          obtain ⟨bad, hbad⟩ : ∃ b, b = badB f := ⟨_, rfl⟩
          obtain ⟨p2, hp2⟩ : ∃ q, q = p + f.used := ⟨_, rfl⟩
          have hp2s : p2 ≤ s.size := by rw [lst_len] at hfu; omega
          have hdrop : (s.data.toList.drop p).drop f.used = s.data.toList.drop p2 := by rw [List.drop_drop, hp2]
          obtain ⟨st, hst⟩ : ∃ st, st = loadStp xs d bad := ⟨_, rfl⟩
          have HGO := hid (show st.1 = 0 → arcF loadStp (n - (k + 1)) st.2 (s.data.toList.drop p2) = arcL loadStp [] s.data.toList from fun h => by
            rw [hst, hd, hbad] at h ⊢
            rw [← hO.out, hnk, arcF_go hf h, hdrop])
          have HOUT := hid (show st.1 ≠ 0 → arcL loadStp [] s.data.toList = st from fun h => by
            rw [hst, hd, hbad] at h ⊢
            rw [← hO.out, hnk, arcF_out hf h])
          have HST := hid hst
          have HP2 := hid hp2
          have HD := hid hd
          have HBAD := hid hbad
          obtain ⟨ky, hky⟩ : ∃ y, y = d.fKey := ⟨_, rfl⟩
          obtain ⟨tx, htx⟩ : ∃ y, y = d.fText := ⟨_, rfl⟩
          have HKT := hid (show d = ⟨ky, tx⟩ by rw [hky, htx])
          have HKY := hid hky
          have HTX := hid htx
          clear hf hnk hdrop hp2 hd hbad hft hfk hf0 hfu hst
          go_wp2_with fail
          refine (cf _).mono ?_
          intro e w3 h3
          obtain ⟨hb3, rfl⟩ := frm_some h3 HF.out
          rw [← HD.out, ← HBAD.out, ← HP2.out, ← hky, ← htx]
          have hz3 := hb3.size
          obtain ⟨X, hX⟩ : ∃ X, X = w3.heap.size := ⟨_, rfl⟩
          obtain ⟨W4, hW4⟩ : ∃ z, z = w3.alloc (.cells #[.string ky, .string tx] 55) := ⟨_, rfl⟩
          have hbx : Bk W4 X 55 [.string ky, .string tx] := by rw [hW4, hX]; exact (by (repeat' (first | (with_reducible exact Bk.new _ _ _) | (with_reducible refine Bk.new1 ?_; first | rfl | (simp; done) | omega) | (with_reducible assumption) | (with_reducible refine Bk.alloc ?_ _) | (with_reducible refine Bk.drew ?_) | (with_reducible refine Bk.drewN ?_ _) | (with_reducible refine Bk.other ?_ ?_ _) | (with_reducible apply Bk.drewBy; with_reducible assumption) | (with_reducible apply Bk.viaB; with_reducible assumption) | omega | (simp; done))))
          have hB4 : Below wr.heap.size wr W4 := by rw [hW4]; (repeat' (first | (with_reducible exact Below.refl _ _) | (with_reducible refine Below.alloc ?_ ?_ _) | (with_reducible refine Below.drew ?_) | (with_reducible refine below_drewN ?_ _) | (with_reducible refine Below.setCell ?_ ?_ _) | (with_reducible refine below_via ‹_› ?_ ?_) | (with_reducible refine below_grow ?_ ?_ _ _) | omega | (simp; done) | (simp; omega)))
          have hzX : X < W4.heap.size := by rw [hW4, hX]; simp
          have hxr : wr.heap.size ≤ X := by omega
          have x0 := hbx.cell 0 rfl
          have x1 := hbx.cell 1 rfl
          have HW4 := hid hW4
          have HX := hid hX
          clear h3 cf hky htx hb3 hW4 hX
          have HA4 := hid (hA.below hB4)
          obtain ⟨ad, cap, b, off, rfl, hm, had, hx⟩ := (HA4.out.slo (fun _ => rfl)).1.uni
          clear hA
          cases bad
          case true =>
            have HR := hid (HCV.out 10 xs (by have h : st = (10, xs) := HST.out; rw [HOUT.out (by rw [h]; simp), h]))
            go_wp2_with fail
            rw [← HW4.out]
            go_ret2
            rw [HR.out.1]
            exact itemsP_none (by (repeat' (first | (with_reducible exact Below.refl _ _) | (with_reducible refine Below.alloc ?_ ?_ _) | (with_reducible refine Below.drew ?_) | (with_reducible refine below_drewN ?_ _) | (with_reducible refine Below.setCell ?_ ?_ _) | (with_reducible refine below_via ‹_› ?_ ?_) | (with_reducible refine below_grow ?_ ?_ _ _) | omega | (simp; done) | (simp; omega)))) HR.out.2
          case false =>
            by_cases h0 : xs.length = 0
            · have hx0 : xs = [] := List.eq_nil_of_length_eq_zero h0
              have hs0 : st = (0, xs ++ [d]) := by rw [HST.out, hx0]; rfl
              have HN := hid (show arcF loadStp (n - (k + 1)) (xs ++ [d]) (s.data.toList.drop p2) = arcL loadStp [] s.data.toList by have h := HGO.out; rw [hs0] at h; exact h rfl)
              have hz1 : decide ((0 : Int) < (xs.length : Int)) = false := decide_eq_false (by omega)
              have hz2 : decide (0 < xs.length) = false := decide_eq_false (by omega)
              clear hx had hx0 hs0 h0
              go_wp2_with fail
              rw [← HW4.out, ← HX.out]
              go_quiet (fail)
              go_wp2_with (at_builtin; refine wpList_pushG rfl (.tmp 56) (.tmp 58) 37 rfl i0 _ 32 Tryd.underlying37 hi iz0 iz1 iz2 rfl (by decide) (fun _ => rfl) (⟨ky, tx⟩ : ItemD) rfl HA4.out (by (repeat' (first | (with_reducible exact Below.refl _ _) | (with_reducible refine Below.alloc ?_ ?_ _) | (with_reducible refine Below.drew ?_) | (with_reducible refine below_drewN ?_ _) | (with_reducible refine Below.setCell ?_ ?_ _) | (with_reducible refine below_via ‹_› ?_ ?_) | (with_reducible refine below_grow ?_ ?_ _ _) | omega | (simp; done) | (simp; omega)))) 55 1 (by first | rfl | (rw [size_drewN]; rfl)) (one_encIt _) (by unfold maxLen; omega) (by omega) ?_; intro v5 w5 hA5 hg5 hx5; rw [← HKT.out] at hA5)
              go_roundw
              case rel => exact ⟨k + 1, p2, xs ++ [d], by omega, by go_num, rfl, hp2s, HN, by simp; omega, hA5⟩
              case measure => simp [intOf]; omega
            · obtain ⟨rfl, hb, hlo, hcap, hcm⟩ := had (by omega)
              have hz1 : decide ((0 : Int) < (xs.length : Int)) = true := decide_eq_true (by omega)
              have hz2 : decide (0 < xs.length) = true := decide_eq_true (by omega)
              have hk1 : (1 : Int) ≤ xs.length := by omega
              have hk2 : (xs.length : Int) - 1 < xs.length := by omega
              have hkn := pred_nat (k := xs.length) (by omega)
              have hkw := pred_wrap (k := xs.length) (n := xs.length) (by omega) (by omega) hm
              have hLL := lastLt_get d (show 0 < xs.length by omega)
              have g2 := hx (xs.length - 1) (by omega) 0 (by omega)
              obtain ⟨pv, hpv⟩ : ∃ pv, pv = xs[xs.length - 1]'(by omega) := ⟨_, rfl⟩
              rw [← hpv] at g2 hLL
              rw [← HKY.out] at hLL
              simp only [encItem, List.getD_cons_zero, Nat.add_zero] at g2
              clear hx had hpv
              cases hlt2 : Op.bytesLess pv.fKey.toList ky.toList
              · have HR := hid (HCV.out 7 xs (by
                  have h : st = (7, xs) := by rw [HST.out]; simp [loadStp, hLL, hlt2]
                  rw [HOUT.out (by rw [h]; simp), h]))
                clear h0 hLL
                go_wp2_with fail
                rw [← HW4.out, ← HX.out]
                go_quiet (fail)
                go_wp2
                go_ret2
                rw [HR.out.1]
                exact itemsP_none (by (repeat' (first | (with_reducible exact Below.refl _ _) | (with_reducible refine Below.alloc ?_ ?_ _) | (with_reducible refine Below.drew ?_) | (with_reducible refine below_drewN ?_ _) | (with_reducible refine Below.setCell ?_ ?_ _) | (with_reducible refine below_via ‹_› ?_ ?_) | (with_reducible refine below_grow ?_ ?_ _ _) | omega | (simp; done) | (simp; omega)))) HR.out.2
              · have hs0 : st = (0, xs ++ [d]) := by rw [HST.out]; simp [loadStp, hLL, hlt2]
                have HN := hid (show arcF loadStp (n - (k + 1)) (xs ++ [d]) (s.data.toList.drop p2) = arcL loadStp [] s.data.toList by have h := HGO.out; rw [hs0] at h; exact h rfl)
                clear h0 hLL hs0
                go_wp2_with fail
                rw [← HW4.out, ← HX.out]
                go_quiet (fail)
                go_wp2_with (at_builtin; refine wpList_pushG rfl (.tmp 56) (.tmp 58) 37 rfl i0 _ 32 Tryd.underlying37 hi iz0 iz1 iz2 rfl (by decide) (fun _ => rfl) (⟨ky, tx⟩ : ItemD) rfl HA4.out (by (repeat' (first | (with_reducible exact Below.refl _ _) | (with_reducible refine Below.alloc ?_ ?_ _) | (with_reducible refine Below.drew ?_) | (with_reducible refine below_drewN ?_ _) | (with_reducible refine Below.setCell ?_ ?_ _) | (with_reducible refine below_via ‹_› ?_ ?_) | (with_reducible refine below_grow ?_ ?_ _ _) | omega | (simp; done) | (simp; omega)))) 55 1 (by first | rfl | (rw [size_drewN]; rfl)) (one_encIt _) (by unfold maxLen; omega) (by omega) ?_; intro v5 w5 hA5 hg5 hx5; rw [← HKT.out] at hA5)
                go_roundw
                case rel => exact ⟨k + 1, p2, xs ++ [d], by omega, by go_num, rfl, hp2s, HN, by simp; omega, hA5⟩
                case measure => simp [intOf]; omega
      · have e : k = n := by omega
        have hlI : ¬ (k : Int) < n := by omega
        have HX := hid (show arcL loadStp [] s.data.toList = if s.data.toList.drop p = [] then (0, xs) else (9, xs) by rw [← hO.out, e, Nat.sub_self]; rfl)
        have HS := hid (hA.slo (fun _ => rfl))
        clear e hA
        by_cases hps : p = s.size
        · have hpz : ((p : Int) != (s.size : Int)) = false := by simp [hps]
          have HR := hid (show loadC s.data.toList = 0 ∧ loadR s.data.toList = xs from by
            have h := HCV.out 0 xs (by rw [HX.out, if_pos (by rw [List.drop_eq_nil_iff, data_len]; omega)])
            exact ⟨h.1, h.2.trans (if_pos rfl)⟩)
          clear hps
          go_wp2_with fail
          go_ret2
          rw [HR.out.1, HR.out.2]
          exact itemsP_some (by (repeat' (first | (with_reducible exact Below.refl _ _) | (with_reducible refine Below.alloc ?_ ?_ _) | (with_reducible refine Below.drew ?_) | (with_reducible refine below_drewN ?_ _) | (with_reducible refine Below.setCell ?_ ?_ _) | (with_reducible refine below_via ‹_› ?_ ?_) | (with_reducible refine below_grow ?_ ?_ _ _) | omega | (simp; done) | (simp; omega)))) HS.out rfl
        · have hpz : ((p : Int) != (s.size : Int)) = true := by simp; omega
          have HR := hid (HCV.out 9 xs (by rw [HX.out, if_neg (by rw [List.drop_eq_nil_iff, data_len]; omega)]))
          go_wp2_with fail
          go_ret2
          rw [HR.out.1]
          exact itemsP_none (by (repeat' (first | (with_reducible exact Below.refl _ _) | (with_reducible refine Below.alloc ?_ ?_ _) | (with_reducible refine Below.drew ?_) | (with_reducible refine below_drewN ?_ _) | (with_reducible refine Below.setCell ?_ ?_ _) | (with_reducible refine below_via ‹_› ?_ ?_) | (with_reducible refine below_grow ?_ ?_ _ _) | omega | (simp; done) | (simp; omega)))) HR.out.2
end Go.Proofs.YtocpgnpdnoidnaaDoor
