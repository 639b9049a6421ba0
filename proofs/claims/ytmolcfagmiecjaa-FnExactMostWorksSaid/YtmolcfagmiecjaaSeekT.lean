/- The reference's search for voyages: what looks at an order, walked. -/
import Derived.Test.YtmolcfagmiecjaaSeekX
namespace Go.Proofs.Ytmolcfagmiecjaa
open Go.RowKit Go.Sort
set_option maxRecDepth 100000

def TakeR (B X bs : Nat) (x y t bq mode : Int) (lv : Value) (os : List Int) (cs : List CallD) (l : Int) (nodes : Int) (vO vC : Value) (w w' : World) (r : SpA × Bool) (e : Ending) : Prop :=
  ∃ vB least, e = .returned (.bool r.2) ∧ XS B X bs x y t bq mode lv w' os cs l r.1 nodes vO vC vB least ∧ Kept (fun k => k = X) w w'
theorem below_set {B X i : Nat} {a w : World} {u : Value} (h : Below B a w) (hX : B ≤ X) : Below B a (w.setCell ⟨X, i, none⟩ u) := h.setCell (by simpa using hX) _
theorem new_sep {w w' : World} {B X bs : Nat} {x y t bq mode : Int} {lv : Value} {os : List Int} {cs : List CallD} {l : Int} {A : SpA} {nodes : Int} {vO vC vB : Value} {least : Int} (h : XS B X bs x y t bq mode lv w os cs l A nodes vO vC vB least)
    {lo : Nat} {v : Value} {xs : List Int} (hv : SlO w' lo 1 encI v xs) (hl : w.heap.size ≤ lo) : ∀ b, v.ownBlock = some b → b ≠ X ∧ vO.ownBlock ≠ some b ∧ vC.ownBlock ≠ some b := fun b hb => by
  have h1 := (hv.2 b hb).2.1
  have h2 := h.blk.lt
  refine ⟨by omega, fun e => ?_, fun e => ?_⟩
  · obtain ⟨cur, h3, -⟩ := own_blk h.ord e
    have := (Array.getElem?_eq_some_iff.1 h3).1; omega
  · obtain ⟨cur, h3, -⟩ := own_blk h.calls e
    have := (Array.getElem?_eq_some_iff.1 h3).1; omega
set_option maxHeartbeats 4000000 in
theorem c_take (B X bs : Nat) (a x y t bq mode : Int) (v : Value) (ws : List WorkD) (w : World) (os : List Int) (cs : List CallD) (l : Int) (A : SpA) (nodes : Int) (vO vC vB : Value) (least : Int)
    (hX : XS B X bs x y t bq mode v w os cs l A nodes vO vC vB least) (hBX : B ≤ X) (hm : mode = 1 ∨ mode = 2 ∨ mode = 4) (hbs : bs < w.heap.size) (hbX : bs ≠ X) (q1 : w.cell? ⟨bs, 1, none⟩ = some (.int .i64 a)) (h1 : 1 ≤ a) (h2 : a ≤ 2000)
    (h : SlA w 0 7 encWork v ws) (hw : worksB ws = true) (hf : 0 < ws.length → ∀ b, v.ownBlock = some b → b ≠ X) (hp : pointB x y = true) (hol : os.length ≤ 12) (hcl : cs.length ≤ 12)
    (hg : ∀ i, (hi : i < cs.length) → ∃ j : Nat, cs[i].fWork = (j : Int) ∧ ∃ hj : j < ws.length, cs[i].fEnd ≤ ws[j].fUntil ∧ ws[j].fFrom + ws[j].fMinutes ≤ cs[i].fEnd) :
    Calls Try.prog 121 #[.pointer (some ⟨X, 0, none⟩)] w fun e w' => TakeR B X bs x y t bq mode v os cs l nodes vO vC w w' (takeF mode ws.length A os) e := by
  obtain ⟨adO, capO, hO⟩ := hX.slO.1.form
  subst hO
  obtain ⟨adV, capV, hV⟩ := h.form
  subst hV
  obtain ⟨adB, capB, hB⟩ := hX.best.1.form
  subst hB
  obtain ⟨fd, cnt, bst⟩ := A
  have HX := hid hX
  have hXl := hX.blk.lt
  have hBw : B ≤ w.heap.size := by omega
  have b3 := hX.blk.cell 3 rfl; have b5 := hX.blk.cell 5 rfl; have b6 := hX.blk.cell 6 rfl; have b8 := hX.blk.cell 8 rfl; have b9 := hX.blk.cell 9 rfl; have b11 := hX.blk.cell 11 rfl; have fx := hX.blk.fr
  simp only at b8 b9 b11
  have HG := hid hg
  have HS := hid h
  have HFV := hid hf
  clear hg h hf hX
  have HB := hid (Kept.refl (fun k => k = X) w)
  by_cases hm4 : mode = 4
  · subst hm4
    clear hm
    by_cases hc : fd = true ∧ os.length ≤ bst.length
    · obtain ⟨rfl, hle⟩ := hc
      have HT := hid (show takeF 4 ws.length ⟨true, cnt, bst⟩ os = (⟨true, cnt, bst⟩, true) by have : ¬ bst.length < os.length := by omega
                                                                                               simp [takeF, this])
      have hd1 : decide ((bst.length : Int) < (os.length : Int)) = false := by simp; omega
      have hd2 : decide (bst.length < os.length) = false := by simp; omega
      go_enter Try.func121, Try.ntmps121
      go_wp2
      go_quiet (fail)
      obtain ⟨wa, hnwa⟩ : ∃ z, z = w.drewN nq := ⟨_, rfl⟩; rw [← hnwa]; have HXa := hid (HX.out.below (w' := wa) (by rw [hnwa]; exact below_drewN (Below.refl _ _) _)); have HBwa := hid (show Kept (fun k => k = X) w wa by rw [hnwa]; exact HB.out.trans (Kept.of (below_drewN (Below.refl _ _) _))); have HBKwa := hid (show Below w.heap.size w wa by rw [hnwa]; exact below_drewN (Below.refl _ _) _); clear hnwa
      have b3 := HXa.out.blk.cell 3 rfl; have b5 := HXa.out.blk.cell 5 rfl; have b6 := HXa.out.blk.cell 6 rfl; have b8 := HXa.out.blk.cell 8 rfl; have b9 := HXa.out.blk.cell 9 rfl; have b11 := HXa.out.blk.cell 11 rfl; have fx := HXa.out.blk.fr
      simp only at b8 b9 b11
      go_wp2
      go_quiet (fail)
      obtain ⟨wb, hnwb⟩ : ∃ z, z = wa.drewN nq := ⟨_, rfl⟩; rw [← hnwb]; have HXb := hid (HXa.out.below (w' := wb) (by rw [hnwb]; exact below_drewN (Below.refl _ _) _)); have HBwb := hid (show Kept (fun k => k = X) w wb by rw [hnwb]; exact HBwa.out.trans (Kept.of (below_drewN (Below.refl _ _) _))); have HBKwb := hid (show Below wa.heap.size wa wb by rw [hnwb]; exact below_drewN (Below.refl _ _) _); clear hnwb
      go_wp2
      go_ret
      rw [HT.out]
      exact ⟨_, _, rfl, HXb.out, HBwb.out⟩
    · have HT := hid (show takeF 4 ws.length ⟨fd, cnt, bst⟩ os = (⟨true, cnt, os⟩, true) by
        have : fd = false ∨ bst.length < os.length := by cases fd <;> simp_all
        simp [takeF, this])
      have hc2 : fd = false ∨ (fd = true ∧ decide ((bst.length : Int) < (os.length : Int)) = true ∧ decide (bst.length < os.length) = true) := by cases fd <;> simp_all
      clear hc
      rcases hc2 with rfl | ⟨rfl, hd1, hd2⟩
      all_goals
        go_enter Try.func121, Try.ntmps121
        go_wp2
        go_quiet (fail)
        obtain ⟨wa, hnwa⟩ : ∃ z, z = w.drewN nq := ⟨_, rfl⟩; rw [← hnwa]; have HXa := hid (HX.out.below (w' := wa) (by rw [hnwa]; exact below_drewN (Below.refl _ _) _)); have HBwa := hid (show Kept (fun k => k = X) w wa by rw [hnwa]; exact HB.out.trans (Kept.of (below_drewN (Below.refl _ _) _))); have HBKwa := hid (show Below w.heap.size w wa by rw [hnwa]; exact below_drewN (Below.refl _ _) _); clear hnwa
        have b3 := HXa.out.blk.cell 3 rfl; have b5 := HXa.out.blk.cell 5 rfl; have b6 := HXa.out.blk.cell 6 rfl; have b8 := HXa.out.blk.cell 8 rfl; have b9 := HXa.out.blk.cell 9 rfl; have b11 := HXa.out.blk.cell 11 rfl; have fx := HXa.out.blk.fr
        simp only at b8 b9 b11
        go_wp2
        go_quiet (fail)
        obtain ⟨wb, hnwb⟩ : ∃ z, z = wa.drewN nq := ⟨_, rfl⟩; rw [← hnwb]; have HXb := hid (HXa.out.below (w' := wb) (by rw [hnwb]; exact below_drewN (Below.refl _ _) _)); have HBwb := hid (show Kept (fun k => k = X) w wb by rw [hnwb]; exact HBwa.out.trans (Kept.of (below_drewN (Below.refl _ _) _))); have HBKwb := hid (show Below wa.heap.size wa wb by rw [hnwb]; exact below_drewN (Below.refl _ _) _); clear hnwb
        have b3 := HXb.out.blk.cell 3 rfl; have b5 := HXb.out.blk.cell 5 rfl; have b6 := HXb.out.blk.cell 6 rfl; have b8 := HXb.out.blk.cell 8 rfl; have b9 := HXb.out.blk.cell 9 rfl; have b11 := HXb.out.blk.cell 11 rfl; have fx := HXb.out.blk.fr
        simp only at b8 b9 b11
        go_wp2_with fail
        obtain ⟨W1, hW1⟩ : ∃ z, z = wb.setCell ⟨X, 9, none⟩ (.bool true) := ⟨_, rfl⟩
        rw [← hW1]
        have HX1 := hid (show XS B X bs x y t bq 4 _ W1 os cs l ⟨true, cnt, bst⟩ nodes _ vC _ least by rw [hW1]; exact HXb.out.setX 9 _ rfl rfl)
        have HB1 := hid (show Kept (fun k => k = X) w W1 by rw [hW1]; exact HBwb.out.set _ _ rfl)
        clear hW1 b3 b5 b6 b8 b9 b11 fx
        refine (c_l00Own _ os _ (HX1.out.slO.1.mono (Nat.zero_le _)) (by omega)).mono ?_
        rintro e w2 ⟨u, rfl, hb2, hS2⟩
        obtain ⟨adu, cpu, rfl⟩ := hS2.1.form
        have HX2 := hid (HX1.out.below hb2)
        have HB2 := hid (HB1.out.trans (Kept.of hb2))
        have HS2 := hid hS2
        have b11 := HX2.out.blk.cell 11 rfl; have fx := HX2.out.blk.fr
        clear hb2 hS2
        go_wp2
        go_ret
        rw [HT.out]
        exact ⟨_, _, rfl, HX2.out.setB (HS2.out.mono (by have := HX1.out.blk.lt; omega)) (new_sep HX1.out HS2.out (Nat.le_refl _)), HB2.out.set _ _ rfl⟩
  · have m4 : (mode == 4) = false := by rw [beq_eq_false_iff_ne]; exact hm4
    have m3 : (mode == 3) = false := by rw [beq_eq_false_iff_ne]; omega
    have HM4 := hid hm4
    clear hm hm4
    by_cases hfull : os.length = ws.length
    · have hfb : ((os.length : Int) == (ws.length : Int)) = true := by rw [hfull]; simp
      have HT0 := hid (show takeF mode ws.length ⟨fd, cnt, bst⟩ os = if fd = false then (⟨true, wrap64 (cnt + 1), os⟩, mode != 1) else (⟨fd, wrap64 (cnt + 1), bst⟩, mode != 1) by
        rw [takeF, if_neg HM4.out, if_pos hfull])
      clear hfull
      go_enter Try.func121, Try.ntmps121
      go_wp2
      go_quiet (fail)
      obtain ⟨wa, hnwa⟩ : ∃ z, z = w.drewN nq := ⟨_, rfl⟩; rw [← hnwa]; have HXa := hid (HX.out.below (w' := wa) (by rw [hnwa]; exact below_drewN (Below.refl _ _) _)); have HBwa := hid (show Kept (fun k => k = X) w wa by rw [hnwa]; exact HB.out.trans (Kept.of (below_drewN (Below.refl _ _) _))); have HBKwa := hid (show Below w.heap.size w wa by rw [hnwa]; exact below_drewN (Below.refl _ _) _); clear hnwa
      have hba := HBKwa.out
      have q1a := below_cell hba hbs q1
      have hbsa : bs < wa.heap.size := Nat.lt_of_lt_of_le hbs hba.size
      have HSa := hid (HS.out.at hba)
      clear hba q1
      have b0 := HXa.out.blk.cell 0 rfl; have b1 := HXa.out.blk.cell 1 rfl; have b2 := HXa.out.blk.cell 2 rfl; have b3 := HXa.out.blk.cell 3 rfl; have b4 := HXa.out.blk.cell 4 rfl; have b5 := HXa.out.blk.cell 5 rfl; have b6 := HXa.out.blk.cell 6 rfl; have b7 := HXa.out.blk.cell 7 rfl; have b8 := HXa.out.blk.cell 8 rfl; have b9 := HXa.out.blk.cell 9 rfl; have b10 := HXa.out.blk.cell 10 rfl; have b11 := HXa.out.blk.cell 11 rfl; have b12 := HXa.out.blk.cell 12 rfl; have fx := HXa.out.blk.fr
      simp only at b8 b9 b10 b11
      go_wp2
      obtain ⟨W1, hW1⟩ : ∃ z, z = wa.setCell ⟨X, 10, none⟩ (.int .i64 (wrap64 (cnt + 1))) := ⟨_, rfl⟩
      rw [← hW1]
      have HX1 := hid (show XS B X bs x y t bq mode _ W1 os cs l ⟨fd, wrap64 (cnt + 1), bst⟩ nodes _ vC _ least by rw [hW1]; exact HXa.out.setX 10 _ rfl rfl)
      have HB1 := hid (show Kept (fun k => k = X) w W1 by rw [hW1]; exact HBwa.out.set _ _ rfl)
      have hq1 : W1.cell? ⟨bs, 0 + 1, none⟩ = some (.int .i64 a) := by rw [hW1]; exact cell_far (q1a) (.inl hbX)
      have hbs1 : bs < W1.heap.size := by rw [hW1, size_set]; exact hbsa
      have hS1 : SlA W1 0 7 encWork (.slice adV ws.length capV) ws := by
        rw [hW1]; exact HSa.out.kept (M := fun k => k = X) ((Kept.refl _ _).set _ _ rfl) fun hp b hb e => HFV.out hp b hb e
      obtain ⟨adC, capC, hCf⟩ := HX1.out.slC.1.form
      subst hCf
      have hSC : SlA W1 0 4 encCall (.slice adC cs.length capC) cs := HX1.out.slC.1.mono (Nat.zero_le _)
      have ce := fun (d : Nat) (os' : Array Obj) => c_l25End bs 0 a x y t _ _ ws cs (grow (redrawn W1 d) os') (lt_regrown hbs1 d os') (below_cell (below_regrown W1 d os') hbs1 hq1) h1 h2 (hS1.at (below_regrown W1 d os')) hw (hSC.at (below_regrown W1 d os')) (by omega) hp HG.out
      clear hW1 b0 b1 b2 b3 b4 b5 b6 b7 b8 b9 b10 b11 b12 fx
      have b0 := HX1.out.blk.cell 0 rfl; have b1 := HX1.out.blk.cell 1 rfl; have b2 := HX1.out.blk.cell 2 rfl; have b3 := HX1.out.blk.cell 3 rfl; have b4 := HX1.out.blk.cell 4 rfl; have b5 := HX1.out.blk.cell 5 rfl; have b6 := HX1.out.blk.cell 6 rfl; have b7 := HX1.out.blk.cell 7 rfl; have b8 := HX1.out.blk.cell 8 rfl; have b9 := HX1.out.blk.cell 9 rfl; have b10 := HX1.out.blk.cell 10 rfl; have b11 := HX1.out.blk.cell 11 rfl; have b12 := HX1.out.blk.cell 12 rfl; have fx := HX1.out.blk.fr
      simp only at b8 b9 b10 b11
      have r0 := cellr b0
      have r1 := cellr b1
      have r2 := cellr b2
      have r3 := cellr b3
      have r4 := cellr b4
      have r7 := cellr b7
      clear b0 b1 b2 b3 b4 b7 b10
      obtain ⟨LE, hLE⟩ : ∃ LE, LE = lastV cs a x y ws t := ⟨_, rfl⟩
      simp only [← hLE] at ce
      clear hLE hq1 hbs1 hS1 hSC
      (refine wp_region_quiet_below (by kernel_rfl) (by kernel_rfl) ?_; (repeat (first | go_big_quiet_step ((first | (go_at_call 88; exact regrown_of (ce _ _)))) | quiet_step ((first | (go_at_call 88; exact regrown_of (ce _ _)))))); refine wpQuiet_nil ?_; intro w1 hw'; have hb := below_of_regrown hw'; clear hw'; obtain ⟨hc, hf⟩ := bcell hb; have hz := hb.size; (try simp at hz); (try have hz0 : ∀ b, b < w.heap.size → b < w1.heap.size := fun b h => by omega); (try have hz1 : w.heap.size < w1.heap.size := by omega); (try have hz2 : w.heap.size + 1 < w1.heap.size := by omega); (try have hz3 : w.heap.size + 2 < w1.heap.size := by omega))
      clear r0 r1 r2 r3 r4 r7 ce hc hf
      have HX2 := hid (HX1.out.below hb)
      have HB2 := hid (HB1.out.trans (Kept.of hb))
      clear hb hz
      clear b5 b6 b8 b9 b11 b12 fx
      have b3 := HX2.out.blk.cell 3 rfl; have b5 := HX2.out.blk.cell 5 rfl; have b6 := HX2.out.blk.cell 6 rfl; have b8 := HX2.out.blk.cell 8 rfl; have b9 := HX2.out.blk.cell 9 rfl; have b11 := HX2.out.blk.cell 11 rfl; have b12 := HX2.out.blk.cell 12 rfl; have fx := HX2.out.blk.fr
      simp only at b8 b9 b11
      cases fd
      · have HT := hid (show takeF mode ws.length ⟨false, cnt, bst⟩ os = (⟨true, wrap64 (cnt + 1), os⟩, mode != 1) by rw [HT0.out]; rfl)
        go_wp2_with fail
        obtain ⟨W3, hW3⟩ : ∃ z, z = (w1.setCell ⟨X, 9, none⟩ (.bool true)).setCell ⟨X, 12, none⟩ (.int .i64 LE) := ⟨_, rfl⟩
        rw [← hW3]
        have HX3 := hid (show XS B X bs x y t bq mode _ W3 os cs l ⟨true, wrap64 (cnt + 1), bst⟩ nodes _ _ _ LE by rw [hW3]; exact (HX2.out.setX (A' := ⟨true, wrap64 (cnt + 1), bst⟩) 9 _ rfl rfl).setX 12 _ rfl rfl)
        have HB3 := hid (show Kept (fun k => k = X) w W3 by rw [hW3]; exact (HB2.out.set _ _ rfl).set _ _ rfl)
        clear hW3 b3 b5 b6 b8 b9 b11 b12 fx
        refine (c_l00Own _ os _ (HX3.out.slO.1.mono (Nat.zero_le _)) (by omega)).mono ?_
        rintro e w4 ⟨u, rfl, hb4, hS4⟩
        obtain ⟨adu, cpu, rfl⟩ := hS4.1.form
        have HX4 := hid (HX3.out.below hb4)
        have HB4 := hid (HB3.out.trans (Kept.of hb4))
        have HS4 := hid hS4
        have b5 := HX4.out.blk.cell 5 rfl; have b11 := HX4.out.blk.cell 11 rfl; have fx := HX4.out.blk.fr
        clear hb4 hS4
        go_wp2
        go_ret
        rw [HT.out]
        exact ⟨_, _, rfl, HX4.out.setB (HS4.out.mono (by have := HX3.out.blk.lt; omega)) (new_sep HX3.out HS4.out (Nat.le_refl _)), HB4.out.set _ _ rfl⟩
      · have HT := hid (show takeF mode ws.length ⟨true, cnt, bst⟩ os = (⟨true, wrap64 (cnt + 1), bst⟩, mode != 1) by rw [HT0.out]; rfl)
        go_wp2
        go_ret
        rw [HT.out]
        exact ⟨_, _, rfl, HX2.out, HB2.out⟩
    · have hfb : ((os.length : Int) == (ws.length : Int)) = false := by rw [beq_eq_false_iff_ne]; omega
      have HT := hid (show takeF mode ws.length ⟨fd, cnt, bst⟩ os = (⟨fd, cnt, bst⟩, true) by rw [takeF, if_neg HM4.out, if_neg hfull])
      clear hfull
      go_enter Try.func121, Try.ntmps121
      go_wp2
      go_quiet (fail)
      obtain ⟨wa, hnwa⟩ : ∃ z, z = w.drewN nq := ⟨_, rfl⟩; rw [← hnwa]; have HXa := hid (HX.out.below (w' := wa) (by rw [hnwa]; exact below_drewN (Below.refl _ _) _)); have HBwa := hid (show Kept (fun k => k = X) w wa by rw [hnwa]; exact HB.out.trans (Kept.of (below_drewN (Below.refl _ _) _))); have HBKwa := hid (show Below w.heap.size w wa by rw [hnwa]; exact below_drewN (Below.refl _ _) _); clear hnwa
      have b3 := HXa.out.blk.cell 3 rfl; have b5 := HXa.out.blk.cell 5 rfl; have b6 := HXa.out.blk.cell 6 rfl; have b8 := HXa.out.blk.cell 8 rfl; have b9 := HXa.out.blk.cell 9 rfl; have b11 := HXa.out.blk.cell 11 rfl; have fx := HXa.out.blk.fr
      simp only at b8 b9 b11
      go_wp2
      go_ret
      rw [HT.out]
      exact ⟨_, _, rfl, HXa.out, HBwa.out⟩
end Go.Proofs.Ytmolcfagmiecjaa
