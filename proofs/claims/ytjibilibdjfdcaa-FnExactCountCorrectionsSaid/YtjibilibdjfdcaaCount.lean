/- Counts of corrections, on both sides. Printed by wip/mkcount.py. -/
import Derived.Test.YtjibilibdjfdcaaNCorrD
import Derived.Test.YtjibilibdjfdcaaTInt64
import Derived.Laws.OwnMore
namespace Go.Proofs.Ytjibilibdjfdcaa
open Go.RowKit Go.Sort
set_option linter.unusedVariables false
set_option maxRecDepth 100000

def cnt (p : Int → Bool) (xs : List CorrectionD) : Int := (xs.filter fun d => p d.fKind).length
def kin (n : Int) : Bool := inB n 1 3
def is1 (n : Int) : Bool := n == 1
def is2 (n : Int) : Bool := n == 2
def is3 (n : Int) : Bool := n == 3
def cc (xs : List CorrectionD) : List Int := [cnt kin xs, cnt is1 xs, cnt is2 xs, cnt is3 xs]
theorem cnt_bd (p : Int → Bool) (xs : List CorrectionD) : 0 ≤ cnt p xs ∧ cnt p xs ≤ xs.length := by
  unfold cnt
  have := List.length_filter_le (fun d : CorrectionD => p d.fKind) xs
  omega
theorem cnt_snoc (p : Int → Bool) (xs : List CorrectionD) {k : Nat} (h : k < xs.length) : cnt p (xs.take (k + 1)) = cnt p (xs.take k) + (if p xs[k].fKind then 1 else 0) := by
  unfold cnt
  rw [List.take_succ_eq_append_getElem h, List.filter_append]
  cases hp : p xs[k].fKind <;> simp [List.filter_cons, hp]
theorem cnt_all (p : Int → Bool) (xs : List CorrectionD) : cnt p (xs.take xs.length) = cnt p xs := by rw [List.take_length]
theorem bk_of_own {w : World} {base e g : Nat} {cap : Nat} {zs : List Value} (h : w.ownsRow base e 1 (.slice (some ⟨g, 0, none⟩) zs.length cap) zs.length zs) (hc : cap = zs.length) : Bk w g e zs := by
  subst hc
  obtain ⟨h0, h⟩ := h
  rcases h with ⟨h, _⟩ | ⟨g', cap', cur, h1, h2, h3, h4, h5, h6, h7⟩
  · simp at h
  · simp only [Value.slice.injEq, Option.some.injEq, Addr.mk.injEq] at h1
    obtain ⟨⟨rfl, -, -⟩, -, rfl⟩ := h1
    unfold Bk
    rw [h3]
    have e1 : cur.toList = zs := by rw [← h7, List.take_of_length_le]; simp [h6]
    rw [← e1]
theorem slo_of_bk {w : World} {g lo : Nat} {a b c d : Int} (h : Bk w g 2 [.int .i64 a, .int .i64 b, .int .i64 c, .int .i64 d]) (hlo : lo ≤ g) : SlO w lo 1 encI (.slice (some ⟨g, 0, none⟩) 4 4) [a, b, c, d] := by
  refine ⟨.inr ⟨g, 0, 4, rfl, by simp, by simp, by unfold maxLen; omega, hlo, h.lt, fun i hi j hj => ?_⟩, fun b' hb' => ?_⟩
  · have e : j = 0 := by omega
    subst e
    simp only [List.length_cons, List.length_nil] at hi
    have h4 : i = 0 ∨ i = 1 ∨ i = 2 ∨ i = 3 := by omega
    rcases h4 with rfl | rfl | rfl | rfl <;> exact h.cell _ rfl
  · simp only [Value.ownBlock, Option.some.injEq] at hb'
    subst hb'
    exact ⟨h.lt, hlo, fun j => h.fr j⟩
def CountR (xs : List CorrectionD) (w : World) (e : Ending) (w' : World) : Prop := ∃ g : Nat, e = .returned (.slice (some ⟨g, 0, none⟩) 4 4) ∧ Below w.heap.size w w' ∧ SlO w' w.heap.size 1 encI (.slice (some ⟨g, 0, none⟩) 4 4) (cc xs)
theorem info_Int64C : (Try.prog.info? 2).map (fun i => (i.zero, i.size, i.bytes)) = some (some (.int .i64 0), 1, 8) := by kernel_rfl
theorem c_isCorrectionKind (n : Int) (w : World) : Calls Try.prog 27 #[.int .i64 n] w fun e w' => e = .returned (.bool (inB n 1 3)) ∧ w = w' := by
  go_enter Try.func27, Try.ntmps27
  go_wp2_with (first | (go_at_call 37; refine (c_within _ _ _ _).mono ?_; rintro e w' ⟨rfl, rfl⟩))
  go_ret
  exact ⟨rfl, rfl⟩
set_option maxHeartbeats 4000000 in
theorem c_spec_CountCorrections (v : Value) (xs : List CorrectionD) (w : World) (h : SlA w 0 17 encCorrection v xs) (hl : xs.length ≤ 1048576) :
    Calls Try.prog 11 #[v] w (CountR xs w) := by
  obtain ⟨i0, hi, hz0, hz1, hz2⟩ := info_parts info_Int64C
  obtain ⟨ad, cap, b, off, rfl, hm, had, hx⟩ := h.uni
  clear h
  go_enter Try.func11, Try.ntmps11
  go_wp2_with (at_make; refine wpList_make_full _ rfl _ _ 34 rfl w.heap.size 2 i0 _ 1 Try.underlying34 hi hz0 hz1 _ _ _ _ 4 rfl rfl rfl rfl (by rw [hz2]; omega) (by unfold maxLen; omega) (Nat.le_refl _) ?_)
  intro w1 hown hgr
  have hmk : (madeCells #[Value.int .i64 0] 4).toList = [.int .i64 0, .int .i64 0, .int .i64 0, .int .i64 0] := by rw [toList_madeCells_one]; rfl
  rw [hmk] at hown
  have hK : Bk w1 w.heap.size 2 [.int .i64 0, .int .i64 0, .int .i64 0, .int .i64 0] := bk_of_own (zs := [.int .i64 0, .int .i64 0, .int .i64 0, .int .i64 0]) hown rfl
  have hB0 : Below w.heap.size w w1 := (Below.refl _ _).grown hgr (Nat.le_refl _) (fun k hk => by cases hk)
  clear hown hgr
  go_wp2_with fail
  go_loopw [4] (fun i wr => ∃ k : Nat, k ≤ xs.length ∧ i = .int .i64 k ∧ Below w.heap.size w wr ∧ Bk wr w.heap.size 2 [.int .i64 (cnt kin (xs.take k)), .int .i64 (cnt is1 (xs.take k)), .int .i64 (cnt is2 (xs.take k)), .int .i64 (cnt is3 (xs.take k))]) (fun i _ => xs.length - (intOf i).toNat)
  case atStart => exact ⟨0, Nat.zero_le _, rfl, hB0, by simpa [cnt] using hK⟩
  case round =>
    clear hK hB0
    obtain ⟨k, hk, rfl, hB, hK⟩ := hrel
    have hzr := hK.lt
    by_cases hlt : k < xs.length
    · have hlI : (k : Int) < xs.length := by omega
      obtain ⟨rfl, hbb, -, hcc, hmc⟩ := had (by omega)
      have hbr : b < wr.heap.size := by omega
      have hbn : b ≠ wr.heap.size := by omega
      have hbg : b ≠ w.heap.size := by omega
      have hgn : w.heap.size ≠ wr.heap.size := by omega
      have g0 := (hB.cell (p := ⟨b, off + k * 17 + 0, none⟩) hbb).trans (hx k hlt 0 (by omega))
      have g1 := (hB.cell (p := ⟨b, off + k * 17 + 1, none⟩) hbb).trans (hx k hlt 1 (by omega))
      have g2 := (hB.cell (p := ⟨b, off + k * 17 + 2, none⟩) hbb).trans (hx k hlt 2 (by omega))
      have g3 := (hB.cell (p := ⟨b, off + k * 17 + 3, none⟩) hbb).trans (hx k hlt 3 (by omega))
      have g4 := (hB.cell (p := ⟨b, off + k * 17 + 4, none⟩) hbb).trans (hx k hlt 4 (by omega))
      have g5 := (hB.cell (p := ⟨b, off + k * 17 + 5, none⟩) hbb).trans (hx k hlt 5 (by omega))
      have g6 := (hB.cell (p := ⟨b, off + k * 17 + 6, none⟩) hbb).trans (hx k hlt 6 (by omega))
      have g7 := (hB.cell (p := ⟨b, off + k * 17 + 7, none⟩) hbb).trans (hx k hlt 7 (by omega))
      have g8 := (hB.cell (p := ⟨b, off + k * 17 + 8, none⟩) hbb).trans (hx k hlt 8 (by omega))
      have g9 := (hB.cell (p := ⟨b, off + k * 17 + 9, none⟩) hbb).trans (hx k hlt 9 (by omega))
      have g10 := (hB.cell (p := ⟨b, off + k * 17 + 10, none⟩) hbb).trans (hx k hlt 10 (by omega))
      have g11 := (hB.cell (p := ⟨b, off + k * 17 + 11, none⟩) hbb).trans (hx k hlt 11 (by omega))
      have g12 := (hB.cell (p := ⟨b, off + k * 17 + 12, none⟩) hbb).trans (hx k hlt 12 (by omega))
      have g13 := (hB.cell (p := ⟨b, off + k * 17 + 13, none⟩) hbb).trans (hx k hlt 13 (by omega))
      have g14 := (hB.cell (p := ⟨b, off + k * 17 + 14, none⟩) hbb).trans (hx k hlt 14 (by omega))
      have g15 := (hB.cell (p := ⟨b, off + k * 17 + 15, none⟩) hbb).trans (hx k hlt 15 (by omega))
      have g16 := (hB.cell (p := ⟨b, off + k * 17 + 16, none⟩) hbb).trans (hx k hlt 16 (by omega))
      simp only [encCorrection, List.getD_cons_zero, List.getD_cons_succ, Nat.add_zero] at g0 g1 g2 g3 g4 g5 g6 g7 g8 g9 g10 g11 g12 g13 g14 g15 g16
      obtain ⟨x, hxk⟩ : ∃ x, x = xs[k] := ⟨_, rfl⟩
      rw [← hxk] at g0 g1 g2 g3 g4 g5 g6 g7 g8 g9 g10 g11 g12 g13 g14 g15 g16
      have s0 := cnt_snoc kin xs hlt
      have s1 := cnt_snoc is1 xs hlt
      have s2 := cnt_snoc is2 xs hlt
      have s3 := cnt_snoc is3 xs hlt
      rw [← hxk] at s0 s1 s2 s3
      obtain ⟨K, hKk⟩ : ∃ K, K = x.fKind := ⟨_, rfl⟩
      rw [← hKk] at s0 s1 s2 s3 g0
      have b0 := cnt_bd kin (xs.take k)
      have b1 := cnt_bd is1 (xs.take k)
      have b2 := cnt_bd is2 (xs.take k)
      have b3 := cnt_bd is3 (xs.take k)
      have hkl : (xs.take k).length ≤ k := List.length_take_le _ _
      obtain ⟨c0, hc0⟩ : ∃ z, z = cnt kin (xs.take k) := ⟨_, rfl⟩
      obtain ⟨c1, hc1⟩ : ∃ z, z = cnt is1 (xs.take k) := ⟨_, rfl⟩
      obtain ⟨c2, hc2⟩ : ∃ z, z = cnt is2 (xs.take k) := ⟨_, rfl⟩
      obtain ⟨c3, hc3⟩ : ∃ z, z = cnt is3 (xs.take k) := ⟨_, rfl⟩
      rw [← hc0] at s0 b0 hK
      rw [← hc1] at s1 b1 hK
      rw [← hc2] at s2 b2 hK
      rw [← hc3] at s3 b3 hK
      obtain ⟨b00, b01⟩ := b0
      obtain ⟨b10, b11⟩ := b1
      obtain ⟨b20, b21⟩ := b2
      obtain ⟨b30, b31⟩ := b3
      have HS := hid (And.intro s0 (And.intro s1 (And.intro s2 s3)))
      have HK := hid hK
      have hf := hK.fr
      have a0 := hK.cell 0 rfl
      have a1 := hK.cell 1 rfl
      have a2 := hK.cell 2 rfl
      have a3 := hK.cell 3 rfl
      clear hx hxk hKk s0 s1 s2 s3 hc0 hc1 hc2 hc3 hK
      cases hq : inB K 1 3 with
      | false =>
        have q0 : kin K = false := hq
        have hr := inB_false hq
        have q1 : is1 K = false := by simp only [is1, beq_eq_false_iff_ne]; omega
        have q2 : is2 K = false := by simp only [is2, beq_eq_false_iff_ne]; omega
        have q3 : is3 K = false := by simp only [is3, beq_eq_false_iff_ne]; omega
        have HQ := hid (And.intro q0 (And.intro q1 (And.intro q2 q3)))
        clear q0 q1 q2 q3 hr
        go_wp2_with (go_at_call 25; refine (c_l00In _ _ _ _).mono ?_; rintro e w' ⟨rfl, rfl⟩)
        go_roundw
        case rel =>
          refine ⟨k + 1, by omega, by go_num, by (repeat' (first | (with_reducible exact Below.refl _ _) | (with_reducible refine Below.alloc ?_ ?_ _) | (with_reducible refine Below.drew ?_) | (with_reducible refine below_drewN ?_ _) | (with_reducible refine Below.setCell ?_ ?_ _) | (with_reducible refine below_via ‹_› ?_ ?_) | (with_reducible refine below_grow ?_ ?_ _ _) | omega | (simp; done) | (simp; omega))), ?_⟩
          rw [HS.out.1, HS.out.2.1, HS.out.2.2.1, HS.out.2.2.2, HQ.out.1, HQ.out.2.1, HQ.out.2.2.1, HQ.out.2.2.2]
          simp only [Bool.false_eq_true, if_false, Int.add_zero]
          exact HK.out
        case measure => simp [intOf]; omega
      | true =>
        have hr := inB_true hq
        have hc : K = 1 ∨ K = 2 ∨ K = 3 := by omega
        rcases hc with rfl | rfl | rfl
        · have HQ := hid (show kin 1 = true ∧ is1 1 = true ∧ is2 1 = false ∧ is3 1 = false from ⟨by decide, by decide, by decide, by decide⟩)
          go_wp2_with (go_at_call 25; refine (c_l00In _ _ _ _).mono ?_; rintro e w' ⟨rfl, rfl⟩)
          go_roundw
          case rel =>
            refine ⟨k + 1, by omega, by go_num, by (repeat' (first | (with_reducible exact Below.refl _ _) | (with_reducible refine Below.alloc ?_ ?_ _) | (with_reducible refine Below.drew ?_) | (with_reducible refine below_drewN ?_ _) | (with_reducible refine Below.setCell ?_ ?_ _) | (with_reducible refine below_via ‹_› ?_ ?_) | (with_reducible refine below_grow ?_ ?_ _ _) | omega | (simp; done) | (simp; omega))), ?_⟩
            rw [HS.out.1, HS.out.2.1, HS.out.2.2.1, HS.out.2.2.2, HQ.out.1, HQ.out.2.1, HQ.out.2.2.1, HQ.out.2.2.2]
            simp only [Bool.false_eq_true, if_false, if_true, Int.add_zero]
            exact (HK.out.set 1 _).set 0 _
          case measure => simp [intOf]; omega
        · have HQ := hid (show kin 2 = true ∧ is1 2 = false ∧ is2 2 = true ∧ is3 2 = false from ⟨by decide, by decide, by decide, by decide⟩)
          go_wp2_with (go_at_call 25; refine (c_l00In _ _ _ _).mono ?_; rintro e w' ⟨rfl, rfl⟩)
          go_roundw
          case rel =>
            refine ⟨k + 1, by omega, by go_num, by (repeat' (first | (with_reducible exact Below.refl _ _) | (with_reducible refine Below.alloc ?_ ?_ _) | (with_reducible refine Below.drew ?_) | (with_reducible refine below_drewN ?_ _) | (with_reducible refine Below.setCell ?_ ?_ _) | (with_reducible refine below_via ‹_› ?_ ?_) | (with_reducible refine below_grow ?_ ?_ _ _) | omega | (simp; done) | (simp; omega))), ?_⟩
            rw [HS.out.1, HS.out.2.1, HS.out.2.2.1, HS.out.2.2.2, HQ.out.1, HQ.out.2.1, HQ.out.2.2.1, HQ.out.2.2.2]
            simp only [Bool.false_eq_true, if_false, if_true, Int.add_zero]
            exact (HK.out.set 2 _).set 0 _
          case measure => simp [intOf]; omega
        · have HQ := hid (show kin 3 = true ∧ is1 3 = false ∧ is2 3 = false ∧ is3 3 = true from ⟨by decide, by decide, by decide, by decide⟩)
          go_wp2_with (go_at_call 25; refine (c_l00In _ _ _ _).mono ?_; rintro e w' ⟨rfl, rfl⟩)
          go_roundw
          case rel =>
            refine ⟨k + 1, by omega, by go_num, by (repeat' (first | (with_reducible exact Below.refl _ _) | (with_reducible refine Below.alloc ?_ ?_ _) | (with_reducible refine Below.drew ?_) | (with_reducible refine below_drewN ?_ _) | (with_reducible refine Below.setCell ?_ ?_ _) | (with_reducible refine below_via ‹_› ?_ ?_) | (with_reducible refine below_grow ?_ ?_ _ _) | omega | (simp; done) | (simp; omega))), ?_⟩
            rw [HS.out.1, HS.out.2.1, HS.out.2.2.1, HS.out.2.2.2, HQ.out.1, HQ.out.2.1, HQ.out.2.2.1, HQ.out.2.2.2]
            simp only [Bool.false_eq_true, if_false, if_true, Int.add_zero]
            exact (HK.out.set 3 _).set 0 _
          case measure => simp [intOf]; omega
    · have hlI : ¬ (k : Int) < xs.length := by omega
      have hke : k = xs.length := by omega
      rw [hke, cnt_all, cnt_all, cnt_all, cnt_all] at hK
      have HS := hid (slo_of_bk (lo := w.heap.size) hK (Nat.le_refl _))
      clear hx had hK hke
      go_wp2_with fail
      go_ret
      exact ⟨_, rfl, hB, HS.out⟩
set_option maxHeartbeats 4000000 in
theorem c_impl_CountCorrections (v : Value) (xs : List CorrectionD) (w : World) (h : SlA w 0 17 encCorrection v xs) (hl : xs.length ≤ 1048576) :
    Calls Try.prog 13 #[v] w (CountR xs w) := by
  obtain ⟨i0, hi, hz0, hz1, hz2⟩ := info_parts info_Int64C
  obtain ⟨ad, cap, b, off, rfl, hm, had, hx⟩ := h.uni
  clear h
  go_enter Try.func13, Try.ntmps13
  go_wp2_with (at_make; refine wpList_make_full _ rfl _ _ 34 rfl w.heap.size 2 i0 _ 1 Try.underlying34 hi hz0 hz1 _ _ _ _ 4 rfl rfl rfl rfl (by rw [hz2]; omega) (by unfold maxLen; omega) (Nat.le_refl _) ?_)
  intro w1 hown hgr
  have hmk : (madeCells #[Value.int .i64 0] 4).toList = [.int .i64 0, .int .i64 0, .int .i64 0, .int .i64 0] := by rw [toList_madeCells_one]; rfl
  rw [hmk] at hown
  have hK : Bk w1 w.heap.size 2 [.int .i64 0, .int .i64 0, .int .i64 0, .int .i64 0] := bk_of_own (zs := [.int .i64 0, .int .i64 0, .int .i64 0, .int .i64 0]) hown rfl
  have hB0 : Below w.heap.size w w1 := (Below.refl _ _).grown hgr (Nat.le_refl _) (fun k hk => by cases hk)
  clear hown hgr
  go_wp2_with fail
  go_loopw [9] (fun i wr => ∃ k : Nat, k ≤ xs.length ∧ i = .int .i64 k ∧ Below w.heap.size w wr ∧ Bk wr w.heap.size 2 [.int .i64 (cnt kin (xs.take k)), .int .i64 (cnt is1 (xs.take k)), .int .i64 (cnt is2 (xs.take k)), .int .i64 (cnt is3 (xs.take k))]) (fun i _ => xs.length - (intOf i).toNat)
  case atStart => exact ⟨0, Nat.zero_le _, rfl, hB0, by simpa [cnt] using hK⟩
  case round =>
    clear hK hB0
    obtain ⟨k, hk, rfl, hB, hK⟩ := hrel
    have hzr := hK.lt
    by_cases hlt : k < xs.length
    · have hlI : (k : Int) < xs.length := by omega
      obtain ⟨rfl, hbb, -, hcc, hmc⟩ := had (by omega)
      have hbr : b < wr.heap.size := by omega
      have hbn : b ≠ wr.heap.size := by omega
      have hbg : b ≠ w.heap.size := by omega
      have hgn : w.heap.size ≠ wr.heap.size := by omega
      have g0 := (hB.cell (p := ⟨b, off + k * 17 + 0, none⟩) hbb).trans (hx k hlt 0 (by omega))
      have g1 := (hB.cell (p := ⟨b, off + k * 17 + 1, none⟩) hbb).trans (hx k hlt 1 (by omega))
      have g2 := (hB.cell (p := ⟨b, off + k * 17 + 2, none⟩) hbb).trans (hx k hlt 2 (by omega))
      have g3 := (hB.cell (p := ⟨b, off + k * 17 + 3, none⟩) hbb).trans (hx k hlt 3 (by omega))
      have g4 := (hB.cell (p := ⟨b, off + k * 17 + 4, none⟩) hbb).trans (hx k hlt 4 (by omega))
      have g5 := (hB.cell (p := ⟨b, off + k * 17 + 5, none⟩) hbb).trans (hx k hlt 5 (by omega))
      have g6 := (hB.cell (p := ⟨b, off + k * 17 + 6, none⟩) hbb).trans (hx k hlt 6 (by omega))
      have g7 := (hB.cell (p := ⟨b, off + k * 17 + 7, none⟩) hbb).trans (hx k hlt 7 (by omega))
      have g8 := (hB.cell (p := ⟨b, off + k * 17 + 8, none⟩) hbb).trans (hx k hlt 8 (by omega))
      have g9 := (hB.cell (p := ⟨b, off + k * 17 + 9, none⟩) hbb).trans (hx k hlt 9 (by omega))
      have g10 := (hB.cell (p := ⟨b, off + k * 17 + 10, none⟩) hbb).trans (hx k hlt 10 (by omega))
      have g11 := (hB.cell (p := ⟨b, off + k * 17 + 11, none⟩) hbb).trans (hx k hlt 11 (by omega))
      have g12 := (hB.cell (p := ⟨b, off + k * 17 + 12, none⟩) hbb).trans (hx k hlt 12 (by omega))
      have g13 := (hB.cell (p := ⟨b, off + k * 17 + 13, none⟩) hbb).trans (hx k hlt 13 (by omega))
      have g14 := (hB.cell (p := ⟨b, off + k * 17 + 14, none⟩) hbb).trans (hx k hlt 14 (by omega))
      have g15 := (hB.cell (p := ⟨b, off + k * 17 + 15, none⟩) hbb).trans (hx k hlt 15 (by omega))
      have g16 := (hB.cell (p := ⟨b, off + k * 17 + 16, none⟩) hbb).trans (hx k hlt 16 (by omega))
      simp only [encCorrection, List.getD_cons_zero, List.getD_cons_succ, Nat.add_zero] at g0 g1 g2 g3 g4 g5 g6 g7 g8 g9 g10 g11 g12 g13 g14 g15 g16
      obtain ⟨x, hxk⟩ : ∃ x, x = xs[k] := ⟨_, rfl⟩
      rw [← hxk] at g0 g1 g2 g3 g4 g5 g6 g7 g8 g9 g10 g11 g12 g13 g14 g15 g16
      have s0 := cnt_snoc kin xs hlt
      have s1 := cnt_snoc is1 xs hlt
      have s2 := cnt_snoc is2 xs hlt
      have s3 := cnt_snoc is3 xs hlt
      rw [← hxk] at s0 s1 s2 s3
      obtain ⟨K, hKk⟩ : ∃ K, K = x.fKind := ⟨_, rfl⟩
      rw [← hKk] at s0 s1 s2 s3 g0
      have b0 := cnt_bd kin (xs.take k)
      have b1 := cnt_bd is1 (xs.take k)
      have b2 := cnt_bd is2 (xs.take k)
      have b3 := cnt_bd is3 (xs.take k)
      have hkl : (xs.take k).length ≤ k := List.length_take_le _ _
      obtain ⟨c0, hc0⟩ : ∃ z, z = cnt kin (xs.take k) := ⟨_, rfl⟩
      obtain ⟨c1, hc1⟩ : ∃ z, z = cnt is1 (xs.take k) := ⟨_, rfl⟩
      obtain ⟨c2, hc2⟩ : ∃ z, z = cnt is2 (xs.take k) := ⟨_, rfl⟩
      obtain ⟨c3, hc3⟩ : ∃ z, z = cnt is3 (xs.take k) := ⟨_, rfl⟩
      rw [← hc0] at s0 b0 hK
      rw [← hc1] at s1 b1 hK
      rw [← hc2] at s2 b2 hK
      rw [← hc3] at s3 b3 hK
      obtain ⟨b00, b01⟩ := b0
      obtain ⟨b10, b11⟩ := b1
      obtain ⟨b20, b21⟩ := b2
      obtain ⟨b30, b31⟩ := b3
      have HS := hid (And.intro s0 (And.intro s1 (And.intro s2 s3)))
      have HK := hid hK
      have hf := hK.fr
      have a0 := hK.cell 0 rfl
      have a1 := hK.cell 1 rfl
      have a2 := hK.cell 2 rfl
      have a3 := hK.cell 3 rfl
      clear hx hxk hKk s0 s1 s2 s3 hc0 hc1 hc2 hc3 hK
      go_wp2_with fail
      have HKa := hid (HK.out.alloc (.cells #[.int .i64 K, .int .i64 x.fAidNumber, .string x.fAidName, .int .i64 x.fAidAtX, .int .i64 x.fAidAtY, .int .i64 x.fAidHeight, .int .i64 x.fAidMarkKind, .string x.fAidMarkColors, .string x.fAidMarkShape, .string x.fAidMarkTopmark, .int .i64 x.fAidLightKind, .slice x.aAidLightGroup x.fAidLightGroup.length x.cAidLightGroup, .string x.fAidLightLetter, .string x.fAidLightColors, .int .i64 x.fAidLightPeriod, .slice x.aAidSectors x.fAidSectors.length x.cAidSectors, .int .i64 x.fAidIntensity] 66))
      have HBa := hid (show Below w.heap.size w (wr.alloc (.cells #[.int .i64 K, .int .i64 x.fAidNumber, .string x.fAidName, .int .i64 x.fAidAtX, .int .i64 x.fAidAtY, .int .i64 x.fAidHeight, .int .i64 x.fAidMarkKind, .string x.fAidMarkColors, .string x.fAidMarkShape, .string x.fAidMarkTopmark, .int .i64 x.fAidLightKind, .slice x.aAidLightGroup x.fAidLightGroup.length x.cAidLightGroup, .string x.fAidLightLetter, .string x.fAidLightColors, .int .i64 x.fAidLightPeriod, .slice x.aAidSectors x.fAidSectors.length x.cAidSectors, .int .i64 x.fAidIntensity] 66)) by (repeat' (first | (with_reducible exact Below.refl _ _) | (with_reducible refine Below.alloc ?_ ?_ _) | (with_reducible refine Below.drew ?_) | (with_reducible refine below_drewN ?_ _) | (with_reducible refine Below.setCell ?_ ?_ _) | (with_reducible refine below_via ‹_› ?_ ?_) | (with_reducible refine below_grow ?_ ?_ _ _) | omega | (simp; done) | (simp; omega))))
      have za := (Bk.new wr 66 [.int .i64 K, .int .i64 x.fAidNumber, .string x.fAidName, .int .i64 x.fAidAtX, .int .i64 x.fAidAtY, .int .i64 x.fAidHeight, .int .i64 x.fAidMarkKind, .string x.fAidMarkColors, .string x.fAidMarkShape, .string x.fAidMarkTopmark, .int .i64 x.fAidLightKind, .slice x.aAidLightGroup x.fAidLightGroup.length x.cAidLightGroup, .string x.fAidLightLetter, .string x.fAidLightColors, .int .i64 x.fAidLightPeriod, .slice x.aAidSectors x.fAidSectors.length x.cAidSectors, .int .i64 x.fAidIntensity]).cell 0 rfl
      obtain ⟨wa, hwa⟩ : ∃ z, z = wr.alloc (.cells #[.int .i64 K, .int .i64 x.fAidNumber, .string x.fAidName, .int .i64 x.fAidAtX, .int .i64 x.fAidAtY, .int .i64 x.fAidHeight, .int .i64 x.fAidMarkKind, .string x.fAidMarkColors, .string x.fAidMarkShape, .string x.fAidMarkTopmark, .int .i64 x.fAidLightKind, .slice x.aAidLightGroup x.fAidLightGroup.length x.cAidLightGroup, .string x.fAidLightLetter, .string x.fAidLightColors, .int .i64 x.fAidLightPeriod, .slice x.aAidSectors x.fAidSectors.length x.cAidSectors, .int .i64 x.fAidIntensity] 66) := ⟨_, rfl⟩
      have hza : wr.heap.size < wa.heap.size := by rw [hwa]; simp
      rw [← hwa] at HKa HBa ⊢
      have za' : wa.cell? ⟨wr.heap.size, 0, none⟩ = some (.int .i64 K) := by rw [hwa]; exact za
      have hfa := HKa.out.fr
      have a0 := HKa.out.cell 0 rfl
      have a1 := HKa.out.cell 1 rfl
      have a2 := HKa.out.cell 2 rfl
      have a3 := HKa.out.cell 3 rfl
      clear za hwa hf HK g0 g1 g2 g3 g4 g5 g6 g7 g8 g9 g10 g11 g12 g13 g14 g15 g16
      refine (c_isCorrectionKind K _).mono ?_
      rintro e w' ⟨rfl, rfl⟩
      cases hq : inB K 1 3 with
      | false =>
        as_aux_lemma =>
        have q0 : kin K = false := hq
        have hr := inB_false hq
        have q1 : is1 K = false := by simp only [is1, beq_eq_false_iff_ne]; omega
        have q2 : is2 K = false := by simp only [is2, beq_eq_false_iff_ne]; omega
        have q3 : is3 K = false := by simp only [is3, beq_eq_false_iff_ne]; omega
        have HQ := hid (And.intro q0 (And.intro q1 (And.intro q2 q3)))
        clear q0 q1 q2 q3 hr
        go_wp2_with fail
        go_roundw
        case rel =>
          refine ⟨k + 1, by omega, by go_num, (by have := HBa.out; (repeat' (first | (with_reducible exact Below.refl _ _) | (with_reducible refine Below.alloc ?_ ?_ _) | (with_reducible refine Below.drew ?_) | (with_reducible refine below_drewN ?_ _) | (with_reducible refine Below.setCell ?_ ?_ _) | (with_reducible refine below_via ‹_› ?_ ?_) | (with_reducible refine below_grow ?_ ?_ _ _) | omega | (simp; done) | (simp; omega)))), ?_⟩
          rw [HS.out.1, HS.out.2.1, HS.out.2.2.1, HS.out.2.2.2, HQ.out.1, HQ.out.2.1, HQ.out.2.2.1, HQ.out.2.2.2]
          simp only [Bool.false_eq_true, if_false, Int.add_zero]
          exact HKa.out
        case measure => simp [intOf]; omega
      | true =>
        have hr := inB_true hq
        have hc : K = 1 ∨ K = 2 ∨ K = 3 := by omega
        rcases hc with rfl | rfl | rfl
        · as_aux_lemma =>
          have HQ := hid (show kin 1 = true ∧ is1 1 = true ∧ is2 1 = false ∧ is3 1 = false from ⟨by decide, by decide, by decide, by decide⟩)
          go_wp2_with fail
          go_roundw
          case rel =>
            refine ⟨k + 1, by omega, by go_num, (by have := HBa.out; (repeat' (first | (with_reducible exact Below.refl _ _) | (with_reducible refine Below.alloc ?_ ?_ _) | (with_reducible refine Below.drew ?_) | (with_reducible refine below_drewN ?_ _) | (with_reducible refine Below.setCell ?_ ?_ _) | (with_reducible refine below_via ‹_› ?_ ?_) | (with_reducible refine below_grow ?_ ?_ _ _) | omega | (simp; done) | (simp; omega)))), ?_⟩
            rw [HS.out.1, HS.out.2.1, HS.out.2.2.1, HS.out.2.2.2, HQ.out.1, HQ.out.2.1, HQ.out.2.2.1, HQ.out.2.2.2]
            simp only [Bool.false_eq_true, if_false, if_true, Int.add_zero]
            exact (HKa.out.set 0 _).set 1 _
          case measure => simp [intOf]; omega
        · as_aux_lemma =>
          have HQ := hid (show kin 2 = true ∧ is1 2 = false ∧ is2 2 = true ∧ is3 2 = false from ⟨by decide, by decide, by decide, by decide⟩)
          go_wp2_with fail
          go_roundw
          case rel =>
            refine ⟨k + 1, by omega, by go_num, (by have := HBa.out; (repeat' (first | (with_reducible exact Below.refl _ _) | (with_reducible refine Below.alloc ?_ ?_ _) | (with_reducible refine Below.drew ?_) | (with_reducible refine below_drewN ?_ _) | (with_reducible refine Below.setCell ?_ ?_ _) | (with_reducible refine below_via ‹_› ?_ ?_) | (with_reducible refine below_grow ?_ ?_ _ _) | omega | (simp; done) | (simp; omega)))), ?_⟩
            rw [HS.out.1, HS.out.2.1, HS.out.2.2.1, HS.out.2.2.2, HQ.out.1, HQ.out.2.1, HQ.out.2.2.1, HQ.out.2.2.2]
            simp only [Bool.false_eq_true, if_false, if_true, Int.add_zero]
            exact (HKa.out.set 0 _).set 2 _
          case measure => simp [intOf]; omega
        · as_aux_lemma =>
          have HQ := hid (show kin 3 = true ∧ is1 3 = false ∧ is2 3 = false ∧ is3 3 = true from ⟨by decide, by decide, by decide, by decide⟩)
          go_wp2_with fail
          go_roundw
          case rel =>
            refine ⟨k + 1, by omega, by go_num, (by have := HBa.out; (repeat' (first | (with_reducible exact Below.refl _ _) | (with_reducible refine Below.alloc ?_ ?_ _) | (with_reducible refine Below.drew ?_) | (with_reducible refine below_drewN ?_ _) | (with_reducible refine Below.setCell ?_ ?_ _) | (with_reducible refine below_via ‹_› ?_ ?_) | (with_reducible refine below_grow ?_ ?_ _ _) | omega | (simp; done) | (simp; omega)))), ?_⟩
            rw [HS.out.1, HS.out.2.1, HS.out.2.2.1, HS.out.2.2.2, HQ.out.1, HQ.out.2.1, HQ.out.2.2.1, HQ.out.2.2.2]
            simp only [Bool.false_eq_true, if_false, if_true, Int.add_zero]
            exact (HKa.out.set 0 _).set 3 _
          case measure => simp [intOf]; omega
    · have hlI : ¬ (k : Int) < xs.length := by omega
      have hke : k = xs.length := by omega
      rw [hke, cnt_all, cnt_all, cnt_all, cnt_all] at hK
      have HS := hid (slo_of_bk (lo := w.heap.size) hK (Nat.le_refl _))
      clear hx had hK hke
      go_wp2_with fail
      go_ret
      exact ⟨_, rfl, hB, HS.out⟩
end Go.Proofs.Ytjibilibdjfdcaa
