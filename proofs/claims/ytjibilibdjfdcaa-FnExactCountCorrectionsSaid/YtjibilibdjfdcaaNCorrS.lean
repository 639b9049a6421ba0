/- Slices of corrections: size, copy, equality. Printed by wip/gennest.py. -/
import Derived.Test.YtjibilibdjfdcaaNCorrection
namespace Go.Proofs.Ytjibilibdjfdcaa
open Go.RowKit
set_option linter.unusedVariables false
set_option maxRecDepth 100000

def totCorrection : List CorrectionD → Int
  | [] => 0
  | d :: l => sizeCorrection d + totCorrection l
theorem totCorrection_nn : ∀ l : List CorrectionD, 0 ≤ totCorrection l
  | [] => by simp [totCorrection]
  | d :: l => by have := totCorrection_nn l; have := sizeCorrection_nn d; simp only [totCorrection]; omega
set_option maxHeartbeats 1000000 in
theorem c_szCorrectionS (v : Value) (xs : List CorrectionD) (n : Int) (w : World) (h : SlA w 0 17 encCorrection v xs) (hok : ∀ x ∈ xs, okCorrection x) (hin : ∀ x ∈ xs, inCorrection w 0 x) (h0 : -1 ≤ n) (h1 : n ≤ 1048576) :
    Calls Try.prog 10 #[v, .int .i64 n] w fun e w' => e = .returned (.int .i64 (szV n (xs.length + totCorrection xs))) ∧ Below w.heap.size w w' := by
  rcases h with ⟨a, cap, rfl, rfl, hcap⟩ | ⟨b, off, cap, rfl, hp, hc, hm, _, hb, hx⟩
  · by_cases hn : n < 0
    · go_enter Try.func10, Try.ntmps10
      go_wp2
      go_ret
      exact ⟨ret_int (by unfold szV; simp [totCorrection]; omega), by (repeat' (first | (with_reducible exact Below.refl _ _) | (with_reducible refine Below.alloc ?_ ?_ _) | (with_reducible refine Below.drew ?_) | (with_reducible refine below_drewN ?_ _) | (with_reducible refine Below.setCell ?_ ?_ _) | (with_reducible refine below_via ‹_› ?_ ?_) | (with_reducible refine below_grow ?_ ?_ _ _) | omega | (simp; done) | (simp; omega)))⟩
    · go_enter Try.func10, Try.ntmps10
      go_wp2
      refine wp_loop_rounds 1 ?_
      rw [rounds_succ]
      go_wp2
      go_ret
      exact ⟨ret_int (by unfold szV; simp [totCorrection]; omega), by (repeat' (first | (with_reducible exact Below.refl _ _) | (with_reducible refine Below.alloc ?_ ?_ _) | (with_reducible refine Below.drew ?_) | (with_reducible refine below_drewN ?_ _) | (with_reducible refine Below.setCell ?_ ?_ _) | (with_reducible refine below_via ‹_› ?_ ?_) | (with_reducible refine below_grow ?_ ?_ _ _) | omega | (simp; done) | (simp; omega)))⟩
  · unfold maxLen at hm
    have hT := totCorrection_nn xs
    by_cases hn : n - xs.length < 0
    · go_enter Try.func10, Try.ntmps10
      go_wp2
      go_ret
      exact ⟨ret_int (by unfold szV; split <;> omega), by (repeat' (first | (with_reducible exact Below.refl _ _) | (with_reducible refine Below.alloc ?_ ?_ _) | (with_reducible refine Below.drew ?_) | (with_reducible refine below_drewN ?_ _) | (with_reducible refine Below.setCell ?_ ?_ _) | (with_reducible refine below_via ‹_› ?_ ?_) | (with_reducible refine below_grow ?_ ?_ _ _) | omega | (simp; done) | (simp; omega)))⟩
    · go_enter Try.func10, Try.ntmps10
      go_wp2
      go_loopw [1, 5] (fun t i wr => ∃ (k : Nat) (m : Int), k ≤ xs.length ∧ i = .int .i64 k ∧ t = .int .i64 m ∧ 0 ≤ m ∧ m ≤ n ∧ m + totCorrection xs = n - xs.length + totCorrection (xs.drop k) ∧ Below w.heap.size w wr) (fun _ i _ => xs.length - (intOf i).toNat)
      case atStart => exact ⟨0, _, Nat.zero_le _, rfl, rfl, by omega, by omega, by simp, by (repeat' (first | (with_reducible exact Below.refl _ _) | (with_reducible refine Below.alloc ?_ ?_ _) | (with_reducible refine Below.drew ?_) | (with_reducible refine below_drewN ?_ _) | (with_reducible refine Below.setCell ?_ ?_ _) | (with_reducible refine below_via ‹_› ?_ ?_) | (with_reducible refine below_grow ?_ ?_ _ _) | omega | (simp; done) | (simp; omega)))⟩
      case round =>
        obtain ⟨k, m, hk, rfl, rfl, hm0, hmn, hmt, hB⟩ := hrel
        obtain ⟨hc0, hf0⟩ := bcell hB
        have hz := hB.size
        by_cases hlt : k < xs.length
        · have hmt' := hmt
          rw [drop_cons xs k hlt, totCorrection] at hmt'
          have hnn := sizeCorrection_nn xs[k]
          have hnd := totCorrection_nn (xs.drop (k + 1))
          have HO := hid (hok xs[k] (List.getElem_mem hlt))
          have HI := hid ((hin xs[k] (List.getElem_mem hlt)).below hB (Nat.le_refl _))
          have HT := hid hmt'
          have HN := hid (And.intro hnn hnd)
          have HT0 := hid hT
          have hm1 : m ≤ 1048576 := by omega
          have g0 := (hc0 b _ hb).trans (hx k hlt 0 (by omega))
          have g1 := (hc0 b _ hb).trans (hx k hlt 1 (by omega))
          have g2 := (hc0 b _ hb).trans (hx k hlt 2 (by omega))
          have g3 := (hc0 b _ hb).trans (hx k hlt 3 (by omega))
          have g4 := (hc0 b _ hb).trans (hx k hlt 4 (by omega))
          have g5 := (hc0 b _ hb).trans (hx k hlt 5 (by omega))
          have g6 := (hc0 b _ hb).trans (hx k hlt 6 (by omega))
          have g7 := (hc0 b _ hb).trans (hx k hlt 7 (by omega))
          have g8 := (hc0 b _ hb).trans (hx k hlt 8 (by omega))
          have g9 := (hc0 b _ hb).trans (hx k hlt 9 (by omega))
          have g10 := (hc0 b _ hb).trans (hx k hlt 10 (by omega))
          have g11 := (hc0 b _ hb).trans (hx k hlt 11 (by omega))
          have g12 := (hc0 b _ hb).trans (hx k hlt 12 (by omega))
          have g13 := (hc0 b _ hb).trans (hx k hlt 13 (by omega))
          have g14 := (hc0 b _ hb).trans (hx k hlt 14 (by omega))
          have g15 := (hc0 b _ hb).trans (hx k hlt 15 (by omega))
          have g16 := (hc0 b _ hb).trans (hx k hlt 16 (by omega))
          simp only [encCorrection, List.getD_cons_zero, List.getD_cons_succ, Nat.add_zero] at g0 g1 g2 g3 g4 g5 g6 g7 g8 g9 g10 g11 g12 g13 g14 g15 g16
          clear hc0 hf0 hx hmt hmt' hnn hnd hT
          go_wp2_with (go_at_call 24; refine (c_szCorrection xs[k].fKind xs[k].fAidNumber xs[k].fAidName xs[k].fAidAtX xs[k].fAidAtY xs[k].fAidHeight xs[k].fAidMarkKind xs[k].fAidMarkColors xs[k].fAidMarkShape xs[k].fAidMarkTopmark xs[k].fAidLightKind xs[k].aAidLightGroup xs[k].fAidLightGroup xs[k].cAidLightGroup xs[k].fAidLightLetter xs[k].fAidLightColors xs[k].fAidLightPeriod xs[k].aAidSectors xs[k].fAidSectors xs[k].cAidSectors xs[k].fAidIntensity m _ (SlA.at HI.out.1 (by (repeat' (first | (with_reducible exact Below.refl _ _) | (with_reducible refine Below.alloc ?_ ?_ _) | (with_reducible refine Below.drew ?_) | (with_reducible refine below_drewN ?_ _) | (with_reducible refine Below.setCell ?_ ?_ _) | (with_reducible refine below_via ‹_› ?_ ?_) | (with_reducible refine below_grow ?_ ?_ _ _) | omega | (simp; done) | (simp; omega))))) (SlA.at HI.out.2 (by (repeat' (first | (with_reducible exact Below.refl _ _) | (with_reducible refine Below.alloc ?_ ?_ _) | (with_reducible refine Below.drew ?_) | (with_reducible refine below_drewN ?_ _) | (with_reducible refine Below.setCell ?_ ?_ _) | (with_reducible refine below_via ‹_› ?_ ?_) | (with_reducible refine below_grow ?_ ?_ _ _) | omega | (simp; done) | (simp; omega))))) (HO.out.2.2.1) (HO.out.2.2.2.2.2.2.2.1) (HO.out.2.2.2.2.2.2.2.2.1) (HO.out.2.2.2.2.2.2.2.2.2.1) (HO.out.2.2.2.2.2.2.2.2.2.2.2.2.1) (HO.out.2.2.2.2.2.2.2.2.2.2.2.2.2.1) (HO.out.2.2.2.2.2.2.2.2.2.2.2.2.2.2.2.1) (by omega) hm1).mono ?_; rintro e w1 ⟨rfl, hb⟩; obtain ⟨hc, hf⟩ := bcell hb; have hz := hb.size; (try simp at hz); (try have hz0 : ∀ b, b < w.heap.size → b < w1.heap.size := fun b h => by omega); (try have hz1 : w.heap.size < w1.heap.size := by omega); (try have hz2 : w.heap.size + 1 < w1.heap.size := by omega); (try have hz3 : w.heap.size + 2 < w1.heap.size := by omega))
          · go_ret
            go_light
            have hneg : szV m (sizeCorrection xs[k]) < 0 := by assumption
            exact ⟨ret_int (szV_eq_neg (by have := HN.out; have := HT.out; have := HT0.out; have := szV_neg hneg; omega)), by (repeat' (first | (with_reducible exact Below.refl _ _) | (with_reducible refine Below.alloc ?_ ?_ _) | (with_reducible refine Below.drew ?_) | (with_reducible refine below_drewN ?_ _) | (with_reducible refine Below.setCell ?_ ?_ _) | (with_reducible refine below_via ‹_› ?_ ?_) | (with_reducible refine below_grow ?_ ?_ _ _) | omega | (simp; done) | (simp; omega)))⟩
          · have hpos : 0 ≤ szV m (sizeCorrection xs[k]) := by assumption
            go_roundw
            case rel =>
              have e1 := szV_pos (n := m) (m := sizeCorrection xs[k]) (by omega)
              exact ⟨k + 1, szV m (sizeCorrection xs[k]), by omega, by go_num, rfl, by omega, by have := HN.out; omega, by have := HT.out; omega, by (repeat' (first | (with_reducible exact Below.refl _ _) | (with_reducible refine Below.alloc ?_ ?_ _) | (with_reducible refine Below.drew ?_) | (with_reducible refine below_drewN ?_ _) | (with_reducible refine Below.setCell ?_ ?_ _) | (with_reducible refine below_via ‹_› ?_ ?_) | (with_reducible refine below_grow ?_ ?_ _ _) | omega | (simp; done) | (simp; omega)))⟩
            case measure => simp [intOf]; omega
        · have e : k = xs.length := by omega
          have hE : m = szV n (xs.length + totCorrection xs) := by
            rw [e, List.drop_length, totCorrection] at hmt
            unfold szV; split <;> omega
          have HE := hid hE
          clear hE hmt e
          go_wp2
          go_ret
          exact ⟨ret_int HE.out, by (repeat' (first | (with_reducible exact Below.refl _ _) | (with_reducible refine Below.alloc ?_ ?_ _) | (with_reducible refine Below.drew ?_) | (with_reducible refine below_drewN ?_ _) | (with_reducible refine Below.setCell ?_ ?_ _) | (with_reducible refine below_via ‹_› ?_ ?_) | (with_reducible refine below_grow ?_ ?_ _ _) | omega | (simp; done) | (simp; omega)))⟩
theorem info_Correction : (Try.prog.info? 66).map (fun i => (i.zero, i.size, i.bytes)) = some (some (.agg #[.int .i64 0, .int .i64 0, .string ⟨#[]⟩, .int .i64 0, .int .i64 0, .int .i64 0, .int .i64 0, .string ⟨#[]⟩, .string ⟨#[]⟩, .string ⟨#[]⟩, .int .i64 0, .slice none 0 0, .string ⟨#[]⟩, .string ⟨#[]⟩, .int .i64 0, .slice none 0 0, .int .i64 0]), 17, 216) := by kernel_rfl
/-- the copy: the same data, in memory of its own, from lo on -/
def CopyCorrection (w : World) (lo : Nat) (xs ys : List CorrectionD) : Prop := ys.length = xs.length ∧ (∀ i, (h : i < ys.length) → (h' : i < xs.length) → sameCorrection xs[i] ys[i]) ∧ ∀ y ∈ ys, ownCorrection w lo y
def partCorrection (n : Nat) (ys : List CorrectionD) : List Value := ys.flatMap encCorrection ++ List.replicate ((n - ys.length) * 17) undef
theorem partCorrection_len (n : Nat) (ys : List CorrectionD) (h : ys.length ≤ n) : (partCorrection n ys).length = n * 17 := by
  unfold partCorrection
  rw [List.length_append, flat_len (n := 17) encCorrection (fun _ => rfl), List.length_replicate, ← Nat.add_mul, Nat.add_sub_cancel' h]
theorem partCorrection_old {n : Nat} {ys : List CorrectionD} {y : CorrectionD} (h : ys.length < n) (j : Nat) (hj : j < ys.length * 17) : (partCorrection n (ys ++ [y])).getD j undef = (partCorrection n ys).getD j undef := by
  unfold partCorrection
  have hl := flat_len (n := 17) encCorrection (fun _ => rfl) ys
  rw [List.flatMap_append]
  simp only [List.getD_eq_getElem?_getD]
  rw [List.getElem?_append_left (by rw [List.length_append]; omega), List.getElem?_append_left (by omega), List.getElem?_append_left (by omega)]
theorem partCorrection_new {n : Nat} {ys : List CorrectionD} {y : CorrectionD} (h : ys.length < n) (j : Nat) (hj : j < 17) : (partCorrection n (ys ++ [y])).getD (ys.length * 17 + j) undef = (encCorrection y).getD j undef := by
  unfold partCorrection
  have hl := flat_len (n := 17) encCorrection (fun _ => rfl) ys
  have hly : (encCorrection y).length = 17 := rfl
  rw [List.flatMap_append]
  simp only [List.getD_eq_getElem?_getD, List.flatMap_cons, List.flatMap_nil, List.append_nil]
  rw [List.getElem?_append_left (by rw [List.length_append]; omega), List.getElem?_append_right (by omega), hl, Nat.add_sub_cancel_left]
theorem partCorrection_all {n : Nat} {ys : List CorrectionD} (h : ys.length = n) : partCorrection n ys = ys.flatMap encCorrection := by
  unfold partCorrection; rw [h, Nat.sub_self, Nat.zero_mul]; simp
set_option maxHeartbeats 2000000 in
theorem c_toCorrectionS (v : Value) (xs : List CorrectionD) (w : World) (h : SlA w 0 17 encCorrection v xs) (hin : ∀ x ∈ xs, inCorrection w 0 x) (hl : xs.length ≤ 1048576) (hsm : ∀ x ∈ xs, x.fAidLightGroup.length ≤ 1048576 ∧ x.fAidSectors.length ≤ 1048576) :
    Calls Try.prog 12 #[v] w fun e w' => ∃ (g : Nat) (ys : List CorrectionD), e = .returned (.slice (some ⟨g, 0, none⟩) xs.length xs.length) ∧ Below w.heap.size w w' ∧ SlO w' w.heap.size 17 encCorrection (.slice (some ⟨g, 0, none⟩) xs.length xs.length) ys ∧ CopyCorrection w' (g + 1) xs ys := by
  obtain ⟨i0, hi, hz0, hz1, hz2⟩ := info_parts info_Correction
  rcases h with ⟨a, cap, rfl, rfl, hcap⟩ | ⟨b, off, cap, rfl, hp, hc, hm, _, hb, hx⟩
  · go_enter Try.func12, Try.ntmps12
    go_wp2_with (at_make; refine wpList_make_full _ rfl _ _ 36 rfl w.heap.size 66 i0 _ 17 Try.underlying36 hi hz0 hz1 _ _ _ _ 0 rfl rfl rfl rfl (by rw [hz2]; omega) (by unfold maxLen; omega) (Nat.le_refl _) ?_)
    intro w1 hown hgr
    have hB0 : Below w.heap.size w w1 := (Below.refl _ _).grown hgr (Nat.le_refl _) (fun k hk => by cases hk)
    have hP0 := PartC.made (cs := ([] : List CorrectionD).flatMap encCorrection) hown rfl
    clear hown hgr
    go_wp2
    refine wp_loop_rounds 1 ?_
    rw [rounds_succ]
    go_wp2
    go_ret
    exact ⟨_, [], rfl, hB0, hP0.own (xs := []) (n := 17) (fun _ => rfl) (Nat.le_refl _) (Nat.le_refl _) (Nat.zero_le _), rfl, fun i h => by simp at h, fun y hy => by cases hy⟩
  · unfold maxLen at hm
    go_enter Try.func12, Try.ntmps12
    go_wp2_with (at_make; refine wpList_make_full _ rfl _ _ 36 rfl w.heap.size 66 i0 _ 17 Try.underlying36 hi hz0 hz1 _ _ _ _ xs.length rfl rfl rfl rfl (by rw [hz2]; omega) (by unfold maxLen; omega) (Nat.le_refl _) ?_)
    intro w1 hown hgr
    have hP0 := PartC.made (cs := partCorrection xs.length []) hown (partCorrection_len _ [] (Nat.zero_le _))
    have hB0 : Below w.heap.size w w1 := (Below.refl _ _).grown hgr (Nat.le_refl _) (fun k hk => by cases hk)
    clear hown hgr
    go_wp2
    go_loopw [4] (fun i wr => ∃ (k : Nat) (ys : List CorrectionD), k ≤ xs.length ∧ ys.length = k ∧ i = .int .i64 k ∧ Below w.heap.size w wr ∧ PartC wr w.heap.size (partCorrection xs.length ys) (k * 17) ∧ Hid (∀ i, (h : i < ys.length) → (h' : i < xs.length) → sameCorrection xs[i] ys[i]) ∧ Hid (∀ y ∈ ys, ownCorrection wr (w.heap.size + 1) y)) (fun i _ => xs.length - (intOf i).toNat)
    case atStart => exact ⟨0, [], Nat.zero_le _, rfl, rfl, hB0, by simpa using hP0, hid (fun i h => by simp at h), hid (fun y hy => by cases hy)⟩
    case round =>
      clear hP0 hB0
      obtain ⟨k, ys, hk, hyl, rfl, hB, hP, HS, HY⟩ := hrel
      by_cases hlt : k < xs.length
      · have hzr := hP.1
        obtain ⟨hc0, hf0⟩ := bcell hB
        have hpl := hid (partCorrection_len xs.length ys (by omega))
        have HYL := hid hyl
        have g0 := hx k hlt 0 (by omega)
        have g1 := hx k hlt 1 (by omega)
        have g2 := hx k hlt 2 (by omega)
        have g3 := hx k hlt 3 (by omega)
        have g4 := hx k hlt 4 (by omega)
        have g5 := hx k hlt 5 (by omega)
        have g6 := hx k hlt 6 (by omega)
        have g7 := hx k hlt 7 (by omega)
        have g8 := hx k hlt 8 (by omega)
        have g9 := hx k hlt 9 (by omega)
        have g10 := hx k hlt 10 (by omega)
        have g11 := hx k hlt 11 (by omega)
        have g12 := hx k hlt 12 (by omega)
        have g13 := hx k hlt 13 (by omega)
        have g14 := hx k hlt 14 (by omega)
        have g15 := hx k hlt 15 (by omega)
        have g16 := hx k hlt 16 (by omega)
        obtain ⟨u0, hu0⟩ := hP.2.2.2.1 (k*17) (by rw [hpl.out]; omega)
        obtain ⟨u1, hu1⟩ := hP.2.2.2.1 (k*17+1) (by rw [hpl.out]; omega)
        obtain ⟨u2, hu2⟩ := hP.2.2.2.1 (k*17+2) (by rw [hpl.out]; omega)
        obtain ⟨u3, hu3⟩ := hP.2.2.2.1 (k*17+3) (by rw [hpl.out]; omega)
        obtain ⟨u4, hu4⟩ := hP.2.2.2.1 (k*17+4) (by rw [hpl.out]; omega)
        obtain ⟨u5, hu5⟩ := hP.2.2.2.1 (k*17+5) (by rw [hpl.out]; omega)
        obtain ⟨u6, hu6⟩ := hP.2.2.2.1 (k*17+6) (by rw [hpl.out]; omega)
        obtain ⟨u7, hu7⟩ := hP.2.2.2.1 (k*17+7) (by rw [hpl.out]; omega)
        obtain ⟨u8, hu8⟩ := hP.2.2.2.1 (k*17+8) (by rw [hpl.out]; omega)
        obtain ⟨u9, hu9⟩ := hP.2.2.2.1 (k*17+9) (by rw [hpl.out]; omega)
        obtain ⟨u10, hu10⟩ := hP.2.2.2.1 (k*17+10) (by rw [hpl.out]; omega)
        obtain ⟨u11, hu11⟩ := hP.2.2.2.1 (k*17+11) (by rw [hpl.out]; omega)
        obtain ⟨u12, hu12⟩ := hP.2.2.2.1 (k*17+12) (by rw [hpl.out]; omega)
        obtain ⟨u13, hu13⟩ := hP.2.2.2.1 (k*17+13) (by rw [hpl.out]; omega)
        obtain ⟨u14, hu14⟩ := hP.2.2.2.1 (k*17+14) (by rw [hpl.out]; omega)
        obtain ⟨u15, hu15⟩ := hP.2.2.2.1 (k*17+15) (by rw [hpl.out]; omega)
        obtain ⟨u16, hu16⟩ := hP.2.2.2.1 (k*17+16) (by rw [hpl.out]; omega)
        have hfz := hP.2.2.1
        have HI := hid (hin xs[k] (List.getElem_mem hlt))
        have HL := hid (hsm xs[k] (List.getElem_mem hlt))
        have HP := hid hP
        simp only [encCorrection, List.getD_cons_zero, List.getD_cons_succ, Nat.add_zero] at g0 g1 g2 g3 g4 g5 g6 g7 g8 g9 g10 g11 g12 g13 g14 g15 g16
        clear hP hyl hx
        go_wp2_with fail
        refine (c_toCorrection xs[k].fKind xs[k].fAidNumber xs[k].fAidName xs[k].fAidAtX xs[k].fAidAtY xs[k].fAidHeight xs[k].fAidMarkKind xs[k].fAidMarkColors xs[k].fAidMarkShape xs[k].fAidMarkTopmark xs[k].fAidLightKind xs[k].aAidLightGroup xs[k].fAidLightGroup xs[k].cAidLightGroup xs[k].fAidLightLetter xs[k].fAidLightColors xs[k].fAidLightPeriod xs[k].aAidSectors xs[k].fAidSectors xs[k].cAidSectors xs[k].fAidIntensity _ (SlA.at HI.out.1 (by (repeat' (first | (with_reducible exact Below.refl _ _) | (with_reducible refine Below.alloc ?_ ?_ _) | (with_reducible refine Below.drew ?_) | (with_reducible refine below_drewN ?_ _) | (with_reducible refine Below.setCell ?_ ?_ _) | (with_reducible refine below_via ‹_› ?_ ?_) | (with_reducible refine below_grow ?_ ?_ _ _) | omega | (simp; done) | (simp; omega))))) (SlA.at HI.out.2 (by (repeat' (first | (with_reducible exact Below.refl _ _) | (with_reducible refine Below.alloc ?_ ?_ _) | (with_reducible refine Below.drew ?_) | (with_reducible refine below_drewN ?_ _) | (with_reducible refine Below.setCell ?_ ?_ _) | (with_reducible refine below_via ‹_› ?_ ?_) | (with_reducible refine below_grow ?_ ?_ _ _) | omega | (simp; done) | (simp; omega))))) HL.out.1 HL.out.2).mono ?_
        rintro e w2 ⟨gAidLightGroup, gAidSectors, rfl, hb2, oAidLightGroup, oAidSectors⟩
        have hz2b := hb2.size
        have hbb : b < wr.heap.size := by omega
        obtain ⟨hc2, hf2⟩ := bcell hb2
        have hw2 : w.heap.size < w2.heap.size := by omega
        go_wp2_with fail
        go_roundw
        case rel =>
          have E1 := HYL.out
          have F := fun j hj => (partCorrection_new (n := xs.length) (ys := ys) (y := (⟨xs[k].fKind, xs[k].fAidNumber, xs[k].fAidName, xs[k].fAidAtX, xs[k].fAidAtY, xs[k].fAidHeight, xs[k].fAidMarkKind, xs[k].fAidMarkColors, xs[k].fAidMarkShape, xs[k].fAidMarkTopmark, xs[k].fAidLightKind, some ⟨gAidLightGroup, 0, none⟩, xs[k].fAidLightGroup, xs[k].fAidLightGroup.length, xs[k].fAidLightLetter, xs[k].fAidLightColors, xs[k].fAidLightPeriod, some ⟨gAidSectors, 0, none⟩, xs[k].fAidSectors, xs[k].fAidSectors.length, xs[k].fAidIntensity⟩ : CorrectionD)) (by omega) j hj).symm
          rw [E1] at F
          have hpn := partCorrection_len xs.length (ys ++ [(⟨xs[k].fKind, xs[k].fAidNumber, xs[k].fAidName, xs[k].fAidAtX, xs[k].fAidAtY, xs[k].fAidHeight, xs[k].fAidMarkKind, xs[k].fAidMarkColors, xs[k].fAidMarkShape, xs[k].fAidMarkTopmark, xs[k].fAidLightKind, some ⟨gAidLightGroup, 0, none⟩, xs[k].fAidLightGroup, xs[k].fAidLightGroup.length, xs[k].fAidLightLetter, xs[k].fAidLightColors, xs[k].fAidLightPeriod, some ⟨gAidSectors, 0, none⟩, xs[k].fAidSectors, xs[k].fAidSectors.length, xs[k].fAidIntensity⟩ : CorrectionD)]) (by simp; omega)
          have P0 : PartC w2 w.heap.size (partCorrection xs.length (ys ++ [(⟨xs[k].fKind, xs[k].fAidNumber, xs[k].fAidName, xs[k].fAidAtX, xs[k].fAidAtY, xs[k].fAidHeight, xs[k].fAidMarkKind, xs[k].fAidMarkColors, xs[k].fAidMarkShape, xs[k].fAidMarkTopmark, xs[k].fAidLightKind, some ⟨gAidLightGroup, 0, none⟩, xs[k].fAidLightGroup, xs[k].fAidLightGroup.length, xs[k].fAidLightLetter, xs[k].fAidLightColors, xs[k].fAidLightPeriod, some ⟨gAidSectors, 0, none⟩, xs[k].fAidSectors, xs[k].fAidSectors.length, xs[k].fAidIntensity⟩ : CorrectionD)])) (k * 17) := (HP.out.below hb2 (Nat.le_refl _)).retype (by rw [hpn, hpl.out]) (fun j hj => partCorrection_old (by omega) j (by rw [E1]; exact hj))
          refine ⟨k + 1, ys ++ [(⟨xs[k].fKind, xs[k].fAidNumber, xs[k].fAidName, xs[k].fAidAtX, xs[k].fAidAtY, xs[k].fAidHeight, xs[k].fAidMarkKind, xs[k].fAidMarkColors, xs[k].fAidMarkShape, xs[k].fAidMarkTopmark, xs[k].fAidLightKind, some ⟨gAidLightGroup, 0, none⟩, xs[k].fAidLightGroup, xs[k].fAidLightGroup.length, xs[k].fAidLightLetter, xs[k].fAidLightColors, xs[k].fAidLightPeriod, some ⟨gAidSectors, 0, none⟩, xs[k].fAidSectors, xs[k].fAidSectors.length, xs[k].fAidIntensity⟩ : CorrectionD)], by omega, by simp; omega, by go_num, by (repeat' (first | (with_reducible exact Below.refl _ _) | (with_reducible refine Below.alloc ?_ ?_ _) | (with_reducible refine Below.drew ?_) | (with_reducible refine below_drewN ?_ _) | (with_reducible refine Below.setCell ?_ ?_ _) | (with_reducible refine below_via ‹_› ?_ ?_) | (with_reducible refine below_grow ?_ ?_ _ _) | omega | (simp; done) | (simp; omega))), ?_, hid ?_, hid ?_⟩
          · exact (((((((((((((((((P0.set (by rw [hpn]; omega) (F 0 (by omega)) rfl).set (by rw [hpn]; omega) (F 1 (by omega)) rfl).set (by rw [hpn]; omega) (F 2 (by omega)) rfl).set (by rw [hpn]; omega) (F 3 (by omega)) rfl).set (by rw [hpn]; omega) (F 4 (by omega)) rfl).set (by rw [hpn]; omega) (F 5 (by omega)) rfl).set (by rw [hpn]; omega) (F 6 (by omega)) rfl).set (by rw [hpn]; omega) (F 7 (by omega)) rfl).set (by rw [hpn]; omega) (F 8 (by omega)) rfl).set (by rw [hpn]; omega) (F 9 (by omega)) rfl).set (by rw [hpn]; omega) (F 10 (by omega)) rfl).set (by rw [hpn]; omega) (F 11 (by omega)) rfl).set (by rw [hpn]; omega) (F 12 (by omega)) rfl).set (by rw [hpn]; omega) (F 13 (by omega)) rfl).set (by rw [hpn]; omega) (F 14 (by omega)) rfl).set (by rw [hpn]; omega) (F 15 (by omega)) rfl).set (by rw [hpn]; omega) (F 16 (by omega)) (by omega))
          · exact snoc_all (R := fun i y => ∀ h' : i < xs.length, sameCorrection xs[i] y) (fun i h h' => HS.out i h h') (fun h' => by simp only [E1]; exact ⟨rfl, rfl, rfl, rfl, rfl, rfl, rfl, rfl, rfl, rfl, rfl, rfl, rfl, rfl, rfl, rfl, rfl⟩)
          · intro y hy
            (refine ownCorrection.setLt ?_ (by simp) _); (refine ownCorrection.setLt ?_ (by simp) _); (refine ownCorrection.setLt ?_ (by simp) _); (refine ownCorrection.setLt ?_ (by simp) _); (refine ownCorrection.setLt ?_ (by simp) _); (refine ownCorrection.setLt ?_ (by simp) _); (refine ownCorrection.setLt ?_ (by simp) _); (refine ownCorrection.setLt ?_ (by simp) _); (refine ownCorrection.setLt ?_ (by simp) _); (refine ownCorrection.setLt ?_ (by simp) _); (refine ownCorrection.setLt ?_ (by simp) _); (refine ownCorrection.setLt ?_ (by simp) _); (refine ownCorrection.setLt ?_ (by simp) _); (refine ownCorrection.setLt ?_ (by simp) _); (refine ownCorrection.setLt ?_ (by simp) _); (refine ownCorrection.setLt ?_ (by simp) _); (refine ownCorrection.setLt ?_ (by simp) _)
            rcases List.mem_append.1 hy with hy | hy
            · exact (HY.out y hy).below hb2 (Nat.le_refl _)
            · rw [List.mem_singleton.1 hy]; exact ⟨oAidLightGroup.mono (by omega), oAidSectors.mono (by omega)⟩
        case measure => simp [intOf]; omega
      · have e : k = xs.length := by omega
        subst e
        have hP2 := hP
        rw [partCorrection_all hyl] at hP2
        have hO : SlO wr w.heap.size 17 encCorrection (.slice (some ⟨w.heap.size, 0, none⟩) xs.length xs.length) ys := by
          have := PartC.own (lo := w.heap.size) (cap := xs.length) (xs := ys) (n := 17) (enc := encCorrection) (fun _ => rfl) (by rw [hyl]; exact hP2) (Nat.le_refl _) (by omega) (by unfold maxLen; omega)
          rw [hyl] at this; exact this
        have HO := hid hO
        have HYL := hid hyl
        clear hP hP2 hO hyl
        go_wp2
        go_ret
        exact ⟨_, ys, rfl, hB, HO.out, HYL.out, HS.out, fun y hy => HY.out y hy⟩
set_option maxHeartbeats 2000000 in
theorem c_eqCorrectionS (v v' : Value) (lo lo' : Nat) (xs ys : List CorrectionD) (w : World) (h : SlA w lo 17 encCorrection v xs) (h' : SlA w lo' 17 encCorrection v' ys) (hl : ys.length = xs.length) (hs : ∀ i, (h : i < xs.length) → (h' : i < ys.length) → sameCorrection xs[i] ys[i]) (hin : ∀ x ∈ xs, inCorrection w lo x) (hin' : ∀ x ∈ ys, inCorrection w lo' x) :
    Calls Try.prog 15 #[v, v'] w fun e w' => e = .returned (.bool true) ∧ Below w.heap.size w w' := by
  rcases h with ⟨a, cap, rfl, rfl, hcap⟩ | ⟨b, off, cap, rfl, hp, hc, hm, _, hb, hx⟩
  · rcases h' with ⟨a', cap', rfl, _, hcap'⟩ | ⟨b', off', cap', rfl, hp', hc', hm', _, hb', hx'⟩
    · go_enter Try.func15, Try.ntmps15
      go_wp2
      refine wp_loop_rounds 1 ?_
      rw [rounds_succ]
      go_wp2
      go_ret
      exact ⟨rfl, by (repeat' (first | (with_reducible exact Below.refl _ _) | (with_reducible refine Below.alloc ?_ ?_ _) | (with_reducible refine Below.drew ?_) | (with_reducible refine below_drewN ?_ _) | (with_reducible refine Below.setCell ?_ ?_ _) | (with_reducible refine below_via ‹_› ?_ ?_) | (with_reducible refine below_grow ?_ ?_ _ _) | omega | (simp; done) | (simp; omega)))⟩
    · simp at hl; simp [hl] at hp'
  · rcases h' with ⟨a', cap', rfl, e', hcap'⟩ | ⟨b', off', cap', rfl, hp', hc', hm', _, hb', hx'⟩
    · subst e'; simp at hl; simp [← hl] at hp
    · unfold maxLen at hm hm'
      rw [hl]
      rw [hl] at hc' hp'
      have HL := hid hl
      clear hl
      go_enter Try.func15, Try.ntmps15
      go_wp2
      go_loopw [5] (fun i wr => ∃ k : Nat, k ≤ xs.length ∧ i = .int .i64 k ∧ Below w.heap.size w wr) (fun i _ => xs.length - (intOf i).toNat)
      case atStart => exact ⟨0, Nat.zero_le _, rfl, by (repeat' (first | (with_reducible exact Below.refl _ _) | (with_reducible refine Below.alloc ?_ ?_ _) | (with_reducible refine Below.drew ?_) | (with_reducible refine below_drewN ?_ _) | (with_reducible refine Below.setCell ?_ ?_ _) | (with_reducible refine below_via ‹_› ?_ ?_) | (with_reducible refine below_grow ?_ ?_ _ _) | omega | (simp; done) | (simp; omega)))⟩
      case round =>
        obtain ⟨k, hk, rfl, hB⟩ := hrel
        obtain ⟨hc0, hf0⟩ := bcell hB
        have hz := hB.size
        by_cases hlt : k < xs.length
        · have hlI : (k : Int) < xs.length := by omega
          have hlt' : k < ys.length := by have := HL.out; omega
          obtain ⟨e0, e1, e2, e3, e4, e5, e6, e7, e8, e9, e10, e11, e12, e13, e14, e15, e16⟩ := hs k hlt hlt'
          have HI := hid ((hin xs[k] (List.getElem_mem hlt)).below hB (Nat.le_refl _))
          have HI' := hid ((hin' ys[k] (List.getElem_mem hlt')).below hB (Nat.le_refl _))
          have g0 := (hc0 b _ hb).trans (hx k hlt 0 (by omega))
          have g1 := (hc0 b _ hb).trans (hx k hlt 1 (by omega))
          have g2 := (hc0 b _ hb).trans (hx k hlt 2 (by omega))
          have g3 := (hc0 b _ hb).trans (hx k hlt 3 (by omega))
          have g4 := (hc0 b _ hb).trans (hx k hlt 4 (by omega))
          have g5 := (hc0 b _ hb).trans (hx k hlt 5 (by omega))
          have g6 := (hc0 b _ hb).trans (hx k hlt 6 (by omega))
          have g7 := (hc0 b _ hb).trans (hx k hlt 7 (by omega))
          have g8 := (hc0 b _ hb).trans (hx k hlt 8 (by omega))
          have g9 := (hc0 b _ hb).trans (hx k hlt 9 (by omega))
          have g10 := (hc0 b _ hb).trans (hx k hlt 10 (by omega))
          have g11 := (hc0 b _ hb).trans (hx k hlt 11 (by omega))
          have g12 := (hc0 b _ hb).trans (hx k hlt 12 (by omega))
          have g13 := (hc0 b _ hb).trans (hx k hlt 13 (by omega))
          have g14 := (hc0 b _ hb).trans (hx k hlt 14 (by omega))
          have g15 := (hc0 b _ hb).trans (hx k hlt 15 (by omega))
          have g16 := (hc0 b _ hb).trans (hx k hlt 16 (by omega))
          have k0 := (hc0 b' _ hb').trans (hx' k hlt' 0 (by omega))
          have k1 := (hc0 b' _ hb').trans (hx' k hlt' 1 (by omega))
          have k2 := (hc0 b' _ hb').trans (hx' k hlt' 2 (by omega))
          have k3 := (hc0 b' _ hb').trans (hx' k hlt' 3 (by omega))
          have k4 := (hc0 b' _ hb').trans (hx' k hlt' 4 (by omega))
          have k5 := (hc0 b' _ hb').trans (hx' k hlt' 5 (by omega))
          have k6 := (hc0 b' _ hb').trans (hx' k hlt' 6 (by omega))
          have k7 := (hc0 b' _ hb').trans (hx' k hlt' 7 (by omega))
          have k8 := (hc0 b' _ hb').trans (hx' k hlt' 8 (by omega))
          have k9 := (hc0 b' _ hb').trans (hx' k hlt' 9 (by omega))
          have k10 := (hc0 b' _ hb').trans (hx' k hlt' 10 (by omega))
          have k11 := (hc0 b' _ hb').trans (hx' k hlt' 11 (by omega))
          have k12 := (hc0 b' _ hb').trans (hx' k hlt' 12 (by omega))
          have k13 := (hc0 b' _ hb').trans (hx' k hlt' 13 (by omega))
          have k14 := (hc0 b' _ hb').trans (hx' k hlt' 14 (by omega))
          have k15 := (hc0 b' _ hb').trans (hx' k hlt' 15 (by omega))
          have k16 := (hc0 b' _ hb').trans (hx' k hlt' 16 (by omega))
          simp only [encCorrection, List.getD_cons_zero, List.getD_cons_succ, Nat.add_zero] at g0 k0 g1 k1 g2 k2 g3 k3 g4 k4 g5 k5 g6 k6 g7 k7 g8 k8 g9 k9 g10 k10 g11 k11 g12 k12 g13 k13 g14 k14 g15 k15 g16 k16
          obtain ⟨y, hy⟩ : ∃ y, y = ys[k] := ⟨_, rfl⟩
          rw [← hy] at e0 k0 e1 k1 e2 k2 e3 k3 e4 k4 e5 k5 e6 k6 e7 k7 e8 k8 e9 k9 e10 k10 e11 k11 e12 k12 e13 k13 e14 k14 e15 k15 e16 k16 HI'
          rw [← e0] at k0
          rw [← e1] at k1
          rw [← e2] at k2
          rw [← e3] at k3
          rw [← e4] at k4
          rw [← e5] at k5
          rw [← e6] at k6
          rw [← e7] at k7
          rw [← e8] at k8
          rw [← e9] at k9
          rw [← e10] at k10
          rw [← e11] at k11
          rw [← e12] at k12
          rw [← e13] at k13
          rw [← e14] at k14
          rw [← e15] at k15
          rw [← e16] at k16
          have HE := hid (show xs[k].fAidLightGroup = y.fAidLightGroup ∧ xs[k].fAidSectors = y.fAidSectors from ⟨e11, e15⟩)
          have J0 := hid (show SlA wr lo' 1 encI (.slice y.aAidLightGroup xs[k].fAidLightGroup.length y.cAidLightGroup) xs[k].fAidLightGroup by rw [HE.out.1]; exact HI'.out.1)
          have J1 := hid (show SlA wr lo' 3 encSector (.slice y.aAidSectors xs[k].fAidSectors.length y.cAidSectors) xs[k].fAidSectors by rw [HE.out.2]; exact HI'.out.2)
          clear hc0 hf0 hx hx' hs hin hin' hy e0 e1 e2 e3 e4 e5 e6 e7 e8 e9 e10 e11 e12 e13 e14 e15 e16
          go_wp2
          go_still_tail 8, (by kernel_rfl)
          change wpList _ _ _ _ _ wr.drew
          generalize hwd : wr.drew = wd
          have hBd : Below w.heap.size w wd := hwd ▸ hB.drew
          have hBe : Below wr.heap.size wr wd := hwd ▸ (Below.refl _ _).drew
          have hzd := hBd.size
          clear hwd
          go_wp2_with fail
          refine (c_eqCorrection xs[k].fKind xs[k].fAidNumber xs[k].fAidName xs[k].fAidAtX xs[k].fAidAtY xs[k].fAidHeight xs[k].fAidMarkKind xs[k].fAidMarkColors xs[k].fAidMarkShape xs[k].fAidMarkTopmark xs[k].fAidLightKind xs[k].aAidLightGroup xs[k].fAidLightGroup xs[k].cAidLightGroup xs[k].fAidLightLetter xs[k].fAidLightColors xs[k].fAidLightPeriod xs[k].aAidSectors xs[k].fAidSectors xs[k].cAidSectors xs[k].fAidIntensity y.aAidLightGroup y.cAidLightGroup y.aAidSectors y.cAidSectors lo lo' _ (SlA.at HI.out.1 hBe) (SlA.at HI.out.2 hBe) (SlA.at J0.out hBe) (SlA.at J1.out hBe)).mono ?_
          rintro e w2 ⟨rfl, hb2⟩
          have hz2 := hb2.size
          go_wp2_with fail
          go_roundw
          case rel => exact ⟨k + 1, by omega, by go_num, by (repeat' (first | (with_reducible exact Below.refl _ _) | (with_reducible refine Below.alloc ?_ ?_ _) | (with_reducible refine Below.drew ?_) | (with_reducible refine below_drewN ?_ _) | (with_reducible refine Below.setCell ?_ ?_ _) | (with_reducible refine below_via ‹_› ?_ ?_) | (with_reducible refine below_grow ?_ ?_ _ _) | omega | (simp; done) | (simp; omega)))⟩
          case measure => simp [intOf]; omega
        · go_wp2
          go_ret
          exact ⟨rfl, by (repeat' (first | (with_reducible exact Below.refl _ _) | (with_reducible refine Below.alloc ?_ ?_ _) | (with_reducible refine Below.drew ?_) | (with_reducible refine below_drewN ?_ _) | (with_reducible refine Below.setCell ?_ ?_ _) | (with_reducible refine below_via ‹_› ?_ ?_) | (with_reducible refine below_grow ?_ ?_ _ _) | omega | (simp; done) | (simp; omega)))⟩
end Go.Proofs.Ytjibilibdjfdcaa
