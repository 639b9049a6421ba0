/- The draws of items. Printed by wip/mkdrawi.py. -/
import Derived.Test.YtabbhlehbhadiaaDoorDraw0
import Derived.Test.YtabbhlehbhadiaaDoorArcC
import Derived.Laws.BytesArg
namespace Go.Proofs.YtabbhlehbhadiaaDoor
open Go.RowKit Go.Sort
set_option linter.unusedVariables false
set_option maxRecDepth 100000

theorem one_encU (y : Int) : ∀ u ∈ encU y, u.oneCell' = true := by intro u hu; simp only [encU, List.mem_singleton] at hu; subst hu; rfl
theorem info_U8 : (Tryd.prog.info? 5).map (fun i => (i.zero, i.size, i.bytes)) = some (some (.int .u8 0), 1, 1) := by kernel_rfl
theorem strOf_size (xs : List Int) : (strOfNums xs).size = xs.length := by simp [strOfNums, ByteArray.size]
theorem cell_ofD {α : Type} {w : World} {lo n : Nat} {enc : α → List Value} {ad : Option Addr} {m cap : Nat} {xs : List α} (h : SlA w lo n enc (.slice ad m cap) xs) (hm : m = xs.length) {k : Nat} (hk : k < xs.length) :
    ∃ b off, ad = some ⟨b, off, none⟩ ∧ lo ≤ b ∧ b < w.heap.size ∧ xs.length ≤ cap ∧ cap ≤ 9223372036854775807 ∧ ∀ i (hi : i < xs.length) j, j < n → w.cell? ⟨b, off + i * n + j, none⟩ = some ((enc xs[i]).getD j undef) := by
  obtain ⟨ad', cap', b, off, e, h1, h2, h3⟩ := h.uni
  injection e with e1 e2 e3
  obtain ⟨k1, k2, k3, k4, k5⟩ := h2 (by omega)
  exact ⟨b, off, e1.trans k1, k3, k2, by omega, by omega, h3⟩
set_option maxHeartbeats 2000000 in
theorem c_word (g k : Nat) (n : Int) (w : World) (h : Src w g k) (hk : k ≤ 1000000) (hn : 1 ≤ n) (hn2 : n ≤ 100) :
    Calls Tryd.prog 34 #[.pointer (some ⟨g, 0, none⟩), .int .i64 n] w (Txt g (k + 102) (fun x => x.size ≤ 100) w) := by
  have hg := h.lt
  obtain ⟨i0, hi, iz0, iz1, iz2⟩ := info_parts info_U8
  go_enter Tryd.func34, Tryd.ntmps34
  go_wp2_with fail
  refine (c_pick g k n _ (by (repeat' (first | (with_reducible assumption) | (with_reducible apply Drew.src; with_reducible assumption) | (with_reducible apply Src.viaB; with_reducible assumption) | (with_reducible refine Src.alloc ?_ _) | (with_reducible refine Src.setFar ?_ ?_ _) | (with_reducible refine Src.drew ?_) | (with_reducible refine Src.drewN ?_ _) | omega | (simp; done) | (simp; omega)))) (by omega) (by omega)).mono ?_
  rintro e w1 ⟨c, rfl, hx, hd1⟩
  obtain ⟨N, rfl⟩ : ∃ N : Nat, c = N := ⟨c.toNat, by omega⟩
  have hN : N ≤ 100 := by have := hx.2.1 (by omega); omega
  have hz1 := hd1.size
  simp at hz1
  have A1 : AccD w g 5 1 encU w1 (.slice (some ⟨w.heap.size, 0, none⟩) 0 0) ([] : List Int) := (AccD.lit (W := w) (w := w) (by (repeat' (first | (with_reducible exact Kept.refl _ _) | (with_reducible refine Kept.alloc' ?_ _) | (with_reducible refine Kept.setNew ?_ ?_ _) | (with_reducible refine Kept.drew ?_) | (with_reducible refine Kept.drewN ?_ _) | (with_reducible apply Kept.viaD; with_reducible assumption) | (with_reducible apply Kept.viaB; with_reducible assumption) | (with_reducible apply Kept.viaO; with_reducible assumption) | omega | (simp; done) | (simp; omega)))) hg 5 1 encU).by hd1
  clear hx
  go_wp2_with fail
  go_loopw [5, 6] (fun u i wr => ∃ (j : Nat) (xs : List Int), i = .int .i64 j ∧ xs.length + j = N ∧ (∀ x ∈ xs, 0 ≤ x ∧ x ≤ 255) ∧ AccD w g 5 1 encU wr u xs ∧ Src wr g (k + 2 + xs.length)) (fun _ i _ => (intOf i).toNat)
  case atStart => exact ⟨N, [], rfl, by simp, by simp, A1, hd1.src⟩
  case round =>
    clear A1 hd1
    obtain ⟨j, xs, rfl, hj, hok, hA, hS⟩ := hrel
    have HJ := hid hj
    have hxl : xs.length ≤ 100 := by omega
    have hjn : j ≤ 100 := by omega
    have HOK := hid hok
    clear hj hok
    by_cases hlt : 0 < j
    · have hltI : (0 : Int) < j := by omega
      have hj1 : (1 : Int) ≤ j := by omega
      go_wp2_with fail
      refine (c_next g (k + 2 + xs.length) _ hS (by omega)).mono ?_
      rintro e w2 ⟨x, rfl, hx, hd2⟩
      have hA2 := hA.by hd2
      have hxw : IntKind.u8.wrap x = x := IntWalk.u8_in x (by omega)
      have HD := hid hd2
      clear hA hS hd2
      go_wp2_with (at_builtin; refine wpList_pushD (α := Int) rfl (.tmp 15) (.tmp 19) 22 rfl i0 (.int .u8 0) 1 Tryd.underlying22 hi iz0 iz1 iz2 rfl (by decide) (fun _ => rfl) x rfl hA2 5 1 rfl (one_encU _) (by unfold maxLen; omega) (by omega) ?_; intro v3 w3 hA3 hK3 hat3)
      go_roundw
      case rel => exact ⟨j - 1, xs ++ [x], (by rw [show ((j - 1 : Nat) : Int) = (j : Int) - 1 by omega]), by have := HJ.out; simp; omega, (fun y hy => (List.mem_append.1 hy).elim (fun h => HOK.out y h) (fun h => by rw [List.mem_singleton.1 h]; exact hx)), hA3, (HD.out.src.kept hK3 fun b hb => by have := hA2.far b hb; omega).mono (by simp; omega)⟩
      case measure => simp [intOf]; omega
    · have hltI : ¬ (0 : Int) < j := by omega
      have hD : Drew g (k + 102) w wr := Drew.mk' hA.kept hS (by omega)
      have HD := hid hD
      have hsl := (hA.slo (fun _ => rfl)).1
      have hwo := hA.own.2
      have hcs : ∀ (v : Value), v = u5 → ∃ z : ByteArray, (convert 22 9 v).run Tryd.prog wr = .ok (.string z) wr ∧ z.size ≤ 100 := by
        rintro v rfl
        rcases hwo with ⟨rfl, hx0⟩ | ⟨g', cap, cur, rfl, -⟩
        · exact ⟨ByteArray.empty, run_convert_bytes_nil wr 22 5 Tryd.underlying22 Tryd.underlying5 _ _ 9 Tryd.underlying9, by decide⟩
        · refine ⟨strOfNums xs, run_convert_bytes_arg wr 22 5 Tryd.underlying22 Tryd.underlying5 g' 0 xs.length cap xs rfl (fun i hi => ?_) 9 Tryd.underlying9, by rw [strOf_size]; exact hxl⟩
          obtain ⟨b, off, e, -, -, -, -, hc⟩ := cell_ofD hsl rfl hi
          injection e with e; injection e with e1 e2 e3
          have := hc i hi 0 (by omega)
          rw [← e1, ← e2] at this
          simpa [encU, List.getD_eq_getElem?_getD, hi] using this
      obtain ⟨z, hz, hzs⟩ := hcs _ rfl
      clear hcs hwo hsl hA hS hD
      go_wp2_with fail
      go_ret
      exact Txt.mk' hzs HD.out
theorem acc_newI {α : Type} {e : TypeId} {n : Nat} (enc : α → List Value) {w W0 : World} (h : Below w.heap.size w W0) : Acc w w.heap.size e n enc (W0.alloc (.cells #[] e)) (.slice (some ⟨W0.heap.size, 0, none⟩) 0 0) ([] : List α) := by
  have hs := h.size
  have hb : Below w.heap.size w (W0.alloc (.cells #[] e)) := h.alloc hs _
  refine ⟨⟨by simp, .inr ⟨W0.heap.size, 0, #[], rfl, hs, heap_alloc_new _ _, Nat.le_refl _, Nat.zero_le _, by simp, by simp⟩⟩, ⟨hb.os, hb.tape, hb.output, hb.size, fun k hk _ => hb.block k hk⟩, fun b hb => by simp [Value.ownBlock] at hb; exact .inr (by omega), Nat.le_refl _⟩
theorem own_not {u v : Value} {B n : Nat} (hx : v.ownBlock = u.ownBlock ∨ v.ownBlock = some (n + 1)) (h : u.ownBlock ≠ some B) (hB : B < n + 1) : v.ownBlock ≠ some B := fun e => by
  rcases hx with hx | hx
  · exact h (hx ▸ e)
  · rw [hx] at e; injection e with e; omega
def PutP (d : ItemD) (xs : List ItemD) (w : World) (e : Ending) (w' : World) : Prop := ∃ (u : Value) (ys : List ItemD), e = .returned u ∧ Below w.heap.size w w' ∧ w'.ownsRow w.heap.size 34 2 u ys.length (ys.flatMap encItem) ∧ ys.length ≤ xs.length + 1 ∧ ∀ y ∈ ys, y = d ∨ y ∈ xs
theorem mem_snoc {d : ItemD} {xs ys : List ItemD} {z : ItemD} (h : ∀ y ∈ ys, y = d ∨ y ∈ xs) (hz : z = d ∨ z ∈ xs) : ∀ y ∈ ys ++ [z], y = d ∨ y ∈ xs := fun y hy => (List.mem_append.1 hy).elim (h y) (fun e => by rw [List.mem_singleton.1 e]; exact hz)
set_option maxHeartbeats 8000000 in
theorem c_l24Put (v : Value) (xs : List ItemD) (d : ItemD) (w : World) (h : SlA w 0 2 encItem v xs) (hl : xs.length ≤ 100) :
    Calls Tryd.prog 35 #[v, .agg #[.string d.fKey, .string d.fText]] w (PutP d xs w) := by
  obtain ⟨i0, hi, iz0, iz1, iz2⟩ := info_parts info_Itm
  obtain ⟨ad, cap, b, off, rfl, hm, had, hx⟩ := h.uni
  have A1 := acc_newI (α := ItemD) (e := 34) (n := 2) encItem (show Below w.heap.size w (w.alloc (.cells #[.string d.fKey, .string d.fText] 34)) by (repeat' (first | (with_reducible exact Below.refl _ _) | (with_reducible refine Below.alloc ?_ ?_ _) | (with_reducible refine Below.drew ?_) | (with_reducible refine below_drewN ?_ _) | (with_reducible refine Below.setCell ?_ ?_ _) | (with_reducible refine below_via ‹_› ?_ ?_) | (with_reducible refine below_grow ?_ ?_ _ _) | omega | (simp; done) | (simp; omega))))
  rw [World.size_alloc] at A1
  have hbx : Bk ((w.alloc (.cells #[.string d.fKey, .string d.fText] 34)).alloc (.cells #[] 34)) w.heap.size 34 [.string d.fKey, .string d.fText] := (Bk.new _ _ _).alloc _
  clear h
  go_enter Tryd.func35, Tryd.ntmps35
  go_wp2_with fail
  go_loopw [5, 6, 7] (fun u dn i wr => ∃ (k : Nat) (ys : List ItemD) (b : Bool), k ≤ xs.length ∧ i = .int .i64 k ∧ dn = .bool b ∧ Acc w w.heap.size 34 2 encItem wr u ys ∧ Bk wr w.heap.size 34 [.string d.fKey, .string d.fText] ∧ u.ownBlock ≠ some w.heap.size ∧ ys.length ≤ k + (if b then 1 else 0) ∧ Hid (∀ y ∈ ys, y = d ∨ y ∈ xs)) (fun _ _ i _ => xs.length - (intOf i).toNat)
  case atStart => exact ⟨0, [], false, Nat.zero_le _, rfl, rfl, A1, hbx, by simp [Value.ownBlock], by simp, hid (by simp)⟩
  case round =>
    clear A1 hbx
    obtain ⟨k, ys, dn, hk, rfl, rfl, hA, hB, hne, hyl, hmem⟩ := hrel
    have hBr : Below w.heap.size w wr := hA.keep
    have hzr := hBr.size
    have hyl2 : ys.length ≤ 101 := by split at hyl <;> omega
    have x0 := hB.cell 0 rfl
    have x1 := hB.cell 1 rfl
    have hxl := hB.lt
    have HA := hid hA
    have HB := hid hB
    have HNE := hid hne
    have HYL := hid hyl
    have HM := hmem
    clear hA hB hne hyl
    by_cases hlt : k < xs.length
    · have hlI : (k : Int) < xs.length := by omega
      obtain ⟨rfl, hbb, -, hcc, hmc⟩ := had (by omega)
      have hbr : b < wr.heap.size := by omega
      have q0 := hx k hlt 0 (by omega)
      have q1 := hx k hlt 1 (by omega)
      simp only [encItem, List.getD_cons_zero, List.getD_cons_succ, Nat.add_zero] at q0 q1
      obtain ⟨z, hz⟩ : ∃ z, z = xs[k] := ⟨_, rfl⟩
      have hzm : z ∈ xs := by rw [hz]; exact List.getElem_mem hlt
      rw [← hz] at q0 q1
      have g0 := below_cell hBr hbb q0
      have g1 := below_cell hBr hbb q1
      have HZ := hid hzm
      clear hx had hz hzm
      cases hq2 : (z.fKey.toList == d.fKey.toList)
      case true =>
        have hq3 : (z.fKey.toList != d.fKey.toList) = false := by simp [bne, hq2]
        cases dn
        · cases hq1 : Op.bytesLess z.fKey.toList d.fKey.toList
          · go_wp2_with fail
            go_quiet (fail)
            go_wp2_with (at_builtin; refine wpList_pushG rfl (.tmp 27) (.tmp 29) 24 rfl i0 _ 32 Tryd.underlying24 hi iz0 iz1 iz2 rfl (by decide) (fun _ => rfl) d rfl HA.out (by (repeat' (first | (with_reducible exact Below.refl _ _) | (with_reducible refine Below.alloc ?_ ?_ _) | (with_reducible refine Below.drew ?_) | (with_reducible refine below_drewN ?_ _) | (with_reducible refine Below.setCell ?_ ?_ _) | (with_reducible refine below_via ‹_› ?_ ?_) | (with_reducible refine below_grow ?_ ?_ _ _) | omega | (simp; done) | (simp; omega)))) 34 1 (by first | rfl | (rw [size_drewN]; rfl)) (one_encIt _) (by unfold maxLen; (try simp); omega) (by (try simp); omega) ?_; intro v3 w3 hA3 hg3 hx3; have hb3 := (tk_bk (v := _) (Bk.drewN HB.out _) HNE.out hg3); have x0 := hb3.cell 0 rfl; have x1 := hb3.cell 1 rfl; have hn3 := own_not hx3 HNE.out (by have := HB.out.lt; (try simp); omega); have g0 := below_cell hA3.keep hbb q0; have g1 := below_cell hA3.keep hbb q1; have hbr3 : b < w3.heap.size := (by have := hA3.keep.size; omega); have hb3l := hb3.lt)
            go_quiet (fail)
            go_wp2_with fail
            go_roundw
            case rel => exact ⟨k + 1, _, true, by omega, by go_num, rfl, hA3.below (by (repeat' (first | (with_reducible exact Below.refl _ _) | (with_reducible refine Below.alloc ?_ ?_ _) | (with_reducible refine Below.drew ?_) | (with_reducible refine below_drewN ?_ _) | (with_reducible refine Below.setCell ?_ ?_ _) | (with_reducible refine below_via ‹_› ?_ ?_) | (with_reducible refine below_grow ?_ ?_ _ _) | omega | (simp; done) | (simp; omega)))), Bk.drewN hb3 _, hn3, by have := HYL.out; simp at this ⊢; omega, hid (mem_snoc HM.out (.inl rfl))⟩
            case measure => simp [intOf]; omega
          · go_wp2_with fail
            go_quiet (fail)
            go_wp2_with fail
            go_quiet (fail)
            go_wp2_with fail
            go_roundw
            case rel => exact ⟨k + 1, _, false, by omega, by go_num, rfl, HA.out.below (by (repeat' (first | (with_reducible exact Below.refl _ _) | (with_reducible refine Below.alloc ?_ ?_ _) | (with_reducible refine Below.drew ?_) | (with_reducible refine below_drewN ?_ _) | (with_reducible refine Below.setCell ?_ ?_ _) | (with_reducible refine below_via ‹_› ?_ ?_) | (with_reducible refine below_grow ?_ ?_ _ _) | omega | (simp; done) | (simp; omega)))), Bk.drewN HB.out _, HNE.out, by have := HYL.out; simp at this ⊢; omega, HM⟩
            case measure => simp [intOf]; omega
        · go_wp2_with fail
          go_quiet (fail)
          go_wp2_with fail
          go_quiet (fail)
          go_wp2_with fail
          go_roundw
          case rel => exact ⟨k + 1, _, true, by omega, by go_num, rfl, HA.out.below (by (repeat' (first | (with_reducible exact Below.refl _ _) | (with_reducible refine Below.alloc ?_ ?_ _) | (with_reducible refine Below.drew ?_) | (with_reducible refine below_drewN ?_ _) | (with_reducible refine Below.setCell ?_ ?_ _) | (with_reducible refine below_via ‹_› ?_ ?_) | (with_reducible refine below_grow ?_ ?_ _ _) | omega | (simp; done) | (simp; omega)))), Bk.drewN HB.out _, HNE.out, by have := HYL.out; simp at this ⊢; omega, HM⟩
          case measure => simp [intOf]; omega
      case false =>
        have hq3 : (z.fKey.toList != d.fKey.toList) = true := by simp [bne, hq2]
        cases dn
        · cases hq1 : Op.bytesLess z.fKey.toList d.fKey.toList
          · go_wp2_with fail
            go_quiet (fail)
            go_wp2_with (at_builtin; refine wpList_pushG rfl (.tmp 27) (.tmp 29) 24 rfl i0 _ 32 Tryd.underlying24 hi iz0 iz1 iz2 rfl (by decide) (fun _ => rfl) d rfl HA.out (by (repeat' (first | (with_reducible exact Below.refl _ _) | (with_reducible refine Below.alloc ?_ ?_ _) | (with_reducible refine Below.drew ?_) | (with_reducible refine below_drewN ?_ _) | (with_reducible refine Below.setCell ?_ ?_ _) | (with_reducible refine below_via ‹_› ?_ ?_) | (with_reducible refine below_grow ?_ ?_ _ _) | omega | (simp; done) | (simp; omega)))) 34 1 (by first | rfl | (rw [size_drewN]; rfl)) (one_encIt _) (by unfold maxLen; (try simp); omega) (by (try simp); omega) ?_; intro v3 w3 hA3 hg3 hx3; have hb3 := (tk_bk (v := _) (Bk.drewN HB.out _) HNE.out hg3); have x0 := hb3.cell 0 rfl; have x1 := hb3.cell 1 rfl; have hn3 := own_not hx3 HNE.out (by have := HB.out.lt; (try simp); omega); have g0 := below_cell hA3.keep hbb q0; have g1 := below_cell hA3.keep hbb q1; have hbr3 : b < w3.heap.size := (by have := hA3.keep.size; omega); have hb3l := hb3.lt)
            go_quiet (fail)
            go_wp2_with (at_builtin; refine wpList_pushG rfl (.tmp 39) (.tmp 44) 24 rfl i0 _ 32 Tryd.underlying24 hi iz0 iz1 iz2 rfl (by decide) (fun _ => rfl) z rfl hA3 (by (repeat' (first | (with_reducible exact Below.refl _ _) | (with_reducible refine Below.alloc ?_ ?_ _) | (with_reducible refine Below.drew ?_) | (with_reducible refine below_drewN ?_ _) | (with_reducible refine Below.setCell ?_ ?_ _) | (with_reducible refine below_via ‹_› ?_ ?_) | (with_reducible refine below_grow ?_ ?_ _ _) | omega | (simp; done) | (simp; omega)))) 34 1 (by first | rfl | (rw [size_drewN]; rfl)) (one_encIt _) (by unfold maxLen; (try simp); omega) (by (try simp); omega) ?_; intro v4 w4 hA4 hg4 hx4)
            go_roundw
            case rel => exact ⟨k + 1, _, true, by omega, by go_num, rfl, hA4, tk_bk (v := _) (Bk.drewN hb3 _) hn3 hg4, own_not hx4 hn3 (by have := hb3l; (try simp); omega), by have := HYL.out; simp at this ⊢; omega, hid (mem_snoc (mem_snoc HM.out (.inl rfl)) (.inr HZ.out))⟩
            case measure => simp [intOf]; omega
          · go_wp2_with fail
            go_quiet (fail)
            go_wp2_with fail
            go_quiet (fail)
            go_wp2_with (at_builtin; refine wpList_pushG rfl (.tmp 39) (.tmp 44) 24 rfl i0 _ 32 Tryd.underlying24 hi iz0 iz1 iz2 rfl (by decide) (fun _ => rfl) z rfl HA.out (by (repeat' (first | (with_reducible exact Below.refl _ _) | (with_reducible refine Below.alloc ?_ ?_ _) | (with_reducible refine Below.drew ?_) | (with_reducible refine below_drewN ?_ _) | (with_reducible refine Below.setCell ?_ ?_ _) | (with_reducible refine below_via ‹_› ?_ ?_) | (with_reducible refine below_grow ?_ ?_ _ _) | omega | (simp; done) | (simp; omega)))) 34 1 (by first | rfl | (rw [size_drewN]; rfl)) (one_encIt _) (by unfold maxLen; (try simp); omega) (by (try simp); omega) ?_; intro v4 w4 hA4 hg4 hx4)
            go_roundw
            case rel => exact ⟨k + 1, _, false, by omega, by go_num, rfl, hA4, tk_bk (v := _) (Bk.drewN HB.out _) HNE.out hg4, own_not hx4 HNE.out (by have := HB.out.lt; (try simp); omega), by have := HYL.out; simp at this ⊢; omega, hid (mem_snoc HM.out (.inr HZ.out))⟩
            case measure => simp [intOf]; omega
        · go_wp2_with fail
          go_quiet (fail)
          go_wp2_with fail
          go_quiet (fail)
          go_wp2_with (at_builtin; refine wpList_pushG rfl (.tmp 39) (.tmp 44) 24 rfl i0 _ 32 Tryd.underlying24 hi iz0 iz1 iz2 rfl (by decide) (fun _ => rfl) z rfl HA.out (by (repeat' (first | (with_reducible exact Below.refl _ _) | (with_reducible refine Below.alloc ?_ ?_ _) | (with_reducible refine Below.drew ?_) | (with_reducible refine below_drewN ?_ _) | (with_reducible refine Below.setCell ?_ ?_ _) | (with_reducible refine below_via ‹_› ?_ ?_) | (with_reducible refine below_grow ?_ ?_ _ _) | omega | (simp; done) | (simp; omega)))) 34 1 (by first | rfl | (rw [size_drewN]; rfl)) (one_encIt _) (by unfold maxLen; (try simp); omega) (by (try simp); omega) ?_; intro v4 w4 hA4 hg4 hx4)
          go_roundw
          case rel => exact ⟨k + 1, _, true, by omega, by go_num, rfl, hA4, tk_bk (v := _) (Bk.drewN HB.out _) HNE.out hg4, own_not hx4 HNE.out (by have := HB.out.lt; (try simp); omega), by have := HYL.out; simp at this ⊢; omega, hid (mem_snoc HM.out (.inr HZ.out))⟩
          case measure => simp [intOf]; omega
    · have hlI : ¬ (k : Int) < xs.length := by omega
      have hke : k = xs.length := by omega
      cases dn
      · have HL2 := hid (show ys.length ≤ xs.length by have := HYL.out; simp at this; omega)
        clear hx had
        go_wp2_with (at_builtin; refine wpList_pushG rfl (.tmp 48) (.tmp 50) 24 rfl i0 _ 32 Tryd.underlying24 hi iz0 iz1 iz2 rfl (by decide) (fun _ => rfl) d rfl HA.out (by (repeat' (first | (with_reducible exact Below.refl _ _) | (with_reducible refine Below.alloc ?_ ?_ _) | (with_reducible refine Below.drew ?_) | (with_reducible refine below_drewN ?_ _) | (with_reducible refine Below.setCell ?_ ?_ _) | (with_reducible refine below_via ‹_› ?_ ?_) | (with_reducible refine below_grow ?_ ?_ _ _) | omega | (simp; done) | (simp; omega)))) 34 1 (by first | rfl | (rw [size_drewN]; rfl)) (one_encIt _) (by unfold maxLen; (try simp); omega) (by (try simp); omega) ?_; intro v3 w3 hA3 hg3 hx3)
        go_ret
        exact ⟨_, ys ++ [d], rfl, hA3.keep, hA3.own, by have := HL2.out; simp; omega, mem_snoc hmem.out (.inl rfl)⟩
      · have HL2 := hid (show ys.length ≤ xs.length + 1 by have := HYL.out; simp at this; omega)
        clear hx had
        go_wp2_with fail
        go_ret
        exact ⟨_, ys, rfl, HA.out.keep, HA.out.own, HL2.out, hmem.out⟩
def smallI (x : ItemD) : Prop := x.fKey.size ≤ 100 ∧ x.fText.size ≤ 500
def ItsR (g k m : Nat) (w : World) (e : Ending) (w' : World) : Prop := ∃ u xs, e = .returned u ∧ AccD w g 34 2 encItem w' u xs ∧ Src w' g k ∧ xs.length ≤ m ∧ ∀ x ∈ xs, smallI x
theorem own_mono {w : World} {B B' n m : Nat} {e : TypeId} {v : Value} {xs : List Value} (h : w.ownsRow B e n v m xs) (hb : B' ≤ B) : w.ownsRow B' e n v m xs := by
  refine ⟨h.1, h.2.imp id ?_⟩
  rintro ⟨g, cap, cur, h1, h2, h3⟩
  exact ⟨g, cap, cur, h1, Nat.le_trans hb h2, h3⟩
theorem putI {g m : Nat} {W w2 w3 : World} {v u : Value} {xs ys : List ItemD} {d : ItemD} (hA : AccD W g 34 2 encItem w2 v xs) (hb : Below w2.heap.size w2 w3) (hs : w3.ownsRow w2.heap.size 34 2 u ys.length (ys.flatMap encItem)) (hl : ys.length ≤ xs.length + 1) (hm : ∀ y ∈ ys, y = d ∨ y ∈ xs) (hx : xs.length ≤ m) (hd : smallI d) (hxs : ∀ x ∈ xs, smallI x) :
    AccD W g 34 2 encItem w3 u ys ∧ ys.length ≤ m + 1 ∧ ∀ y ∈ ys, smallI y :=
  ⟨⟨own_mono hs hA.kept.size, hA.kept.trans (Kept.of hb), hA.lt⟩, by omega, fun y hy => (hm y hy).elim (fun e => e ▸ hd) (hxs y)⟩
set_option maxHeartbeats 4000000 in
theorem c_l24DrawOk (g k : Nat) (w : World) (h : Src w g k) (hk : k ≤ 100000) :
    Calls Tryd.prog 23 #[.pointer (some ⟨g, 0, none⟩)] w (ItsR g (k + 542) 5 w) := by
  have hg := h.lt
  go_enter Tryd.func23, Tryd.ntmps23
  go_wp2_with fail
  refine (c_pick g k _ _ (by (repeat' (first | (with_reducible assumption) | (with_reducible apply Drew.src; with_reducible assumption) | (with_reducible apply Src.viaB; with_reducible assumption) | (with_reducible refine Src.alloc ?_ _) | (with_reducible refine Src.setFar ?_ ?_ _) | (with_reducible refine Src.drew ?_) | (with_reducible refine Src.drewN ?_ _) | omega | (simp; done) | (simp; omega)))) (by omega) (by omega)).mono ?_
  rintro e w1 ⟨c, rfl, hx, hd1⟩
  obtain ⟨N, rfl⟩ : ∃ N : Nat, c = N := ⟨c.toNat, by omega⟩
  have hN : N ≤ 5 := by have := hx.2.1 (by omega); omega
  have hz1 := hd1.size
  simp at hz1
  have S1 : AccD w g 34 2 encItem w1 (.slice (some ⟨w.heap.size, 0, none⟩) 0 0) ([] : List ItemD) := (AccD.lit (W := w) (w := w) (by (repeat' (first | (with_reducible exact Kept.refl _ _) | (with_reducible refine Kept.alloc' ?_ _) | (with_reducible refine Kept.setNew ?_ ?_ _) | (with_reducible refine Kept.drew ?_) | (with_reducible refine Kept.drewN ?_ _) | (with_reducible apply Kept.viaD; with_reducible assumption) | (with_reducible apply Kept.viaB; with_reducible assumption) | (with_reducible apply Kept.viaO; with_reducible assumption) | omega | (simp; done) | (simp; omega)))) hg 34 2 encItem).by hd1
  have Q1 := hd1.src
  clear hx hd1
  go_wp2_with fail
  go_loopw [3, 4] (fun u i wr => ∃ (j m : Nat) (xs : List ItemD), i = .int .i64 j ∧ m + j = N ∧ xs.length ≤ m ∧ Hid (∀ x ∈ xs, smallI x) ∧ AccD w g 34 2 encItem wr u xs ∧ Src wr g (k + 2 + 108 * m)) (fun _ i _ => (intOf i).toNat)
  case atStart => exact ⟨N, 0, [], rfl, by omega, Nat.zero_le _, hid (by simp), S1, Q1⟩
  case round =>
    clear S1 Q1
    obtain ⟨j, m, xs, rfl, hj, hxl, hok, hS, hQ⟩ := hrel
    have hzr := hS.kept.size
    have hjn : j ≤ 5 := by omega
    have hmn : m ≤ 5 := by omega
    have HJ := hid hj
    have HS := hid hS
    clear hj hS
    by_cases hlt : 0 < j
    · have hltI : (0 : Int) < j := by omega
      have hj1 : (1 : Int) ≤ j := by omega
      go_wp2_with fail
      refine (c_text g (k + 2 + 108 * m) _ _ _ (by (repeat' (first | (with_reducible assumption) | (with_reducible apply Drew.src; with_reducible assumption) | (with_reducible apply Src.viaB; with_reducible assumption) | (with_reducible refine Src.alloc ?_ _) | (with_reducible refine Src.setFar ?_ ?_ _) | (with_reducible refine Src.drew ?_) | (with_reducible refine Src.drewN ?_ _) | omega | (simp; done) | (simp; omega)))) (by omega) (by first | exact (lit_at (enc := encT) (fun _ => rfl) [⟨#[97]⟩, ⟨#[98]⟩, ⟨#[99, 104, 97, 114, 116]⟩, ⟨#[108, 105, 115, 116]⟩, ⟨#[110, 48, 48, 49, 50]⟩, ⟨#[122, 57]⟩] rfl (by first | rfl | (simp; done)) (by first | omega | (simp; omega)) rfl rfl (by simp) (by simp)) | exact Lit.drew (lit_at (enc := encT) (fun _ => rfl) [⟨#[97]⟩, ⟨#[98]⟩, ⟨#[99, 104, 97, 114, 116]⟩, ⟨#[108, 105, 115, 116]⟩, ⟨#[110, 48, 48, 49, 50]⟩, ⟨#[122, 57]⟩] rfl (by first | rfl | (simp; done)) (by first | omega | (simp; omega)) rfl rfl (by simp) (by simp)) | fail)).mono ?_
      rintro e w2 ⟨ky, rfl, hky, hd2⟩
      have hz2 := hd2.size
      simp at hz2
      have Hky := hid (show ky.size ≤ 100 by simp only [List.mem_cons, List.not_mem_nil, or_false] at hky; rcases hky with rfl | rfl | rfl | rfl | rfl | rfl <;> decide)
      clear hky
      go_wp2_with fail
      refine (c_text g (k + 2 + 108 * m + 2) _ _ _ (by (repeat' (first | (with_reducible assumption) | (with_reducible apply Drew.src; with_reducible assumption) | (with_reducible apply Src.viaB; with_reducible assumption) | (with_reducible refine Src.alloc ?_ _) | (with_reducible refine Src.setFar ?_ ?_ _) | (with_reducible refine Src.drew ?_) | (with_reducible refine Src.drewN ?_ _) | omega | (simp; done) | (simp; omega)))) (by omega) (by first | exact (lit_at (enc := encT) (fun _ => rfl) [⟨#[]⟩, ⟨#[120]⟩, ⟨#[97, 32, 98]⟩, ⟨#[108, 105, 110, 101, 10, 108, 105, 110, 101]⟩, ⟨#[97, 114, 99, 104, 105, 118, 101, 32, 51, 10]⟩, ⟨#[49, 50, 47, 114, 111, 99, 107]⟩] rfl (by first | rfl | (simp; done)) (by first | omega | (simp; omega)) rfl rfl (by simp) (by simp)) | exact Lit.drew (lit_at (enc := encT) (fun _ => rfl) [⟨#[]⟩, ⟨#[120]⟩, ⟨#[97, 32, 98]⟩, ⟨#[108, 105, 110, 101, 10, 108, 105, 110, 101]⟩, ⟨#[97, 114, 99, 104, 105, 118, 101, 32, 51, 10]⟩, ⟨#[49, 50, 47, 114, 111, 99, 107]⟩] rfl (by first | rfl | (simp; done)) (by first | omega | (simp; omega)) rfl rfl (by simp) (by simp)) | fail)).mono ?_
      rintro e w3 ⟨tx, rfl, htx, hd3⟩
      have hz3 := hd3.size
      simp at hz3
      have htl : tx.size ≤ 100 := by simp only [List.mem_cons, List.not_mem_nil, or_false] at htx; rcases htx with rfl | rfl | rfl | rfl | rfl | rfl <;> decide
      clear htx
      go_wp2_with fail
      refine (c_one g (k + 2 + 108 * m + 4) _ _ (by (repeat' (first | (with_reducible assumption) | (with_reducible apply Drew.src; with_reducible assumption) | (with_reducible apply Src.viaB; with_reducible assumption) | (with_reducible refine Src.alloc ?_ _) | (with_reducible refine Src.setFar ?_ ?_ _) | (with_reducible refine Src.drew ?_) | (with_reducible refine Src.drewN ?_ _) | omega | (simp; done) | (simp; omega)))) (by omega) (by omega)).mono ?_
      rintro e w4 ⟨b, rfl, hd4⟩
      have hz4 := hd4.size
      cases b
      · have hK4 : Kept (fun b => b = g) wr w4 := by (repeat' (first | (with_reducible exact Kept.refl _ _) | (with_reducible refine Kept.alloc' ?_ _) | (with_reducible refine Kept.setNew ?_ ?_ _) | (with_reducible refine Kept.drew ?_) | (with_reducible refine Kept.drewN ?_ _) | (with_reducible apply Kept.viaD; with_reducible assumption) | (with_reducible apply Kept.viaB; with_reducible assumption) | (with_reducible apply Kept.viaO; with_reducible assumption) | omega | (simp; done) | (simp; omega)))
        have hS4 := HS.out.only hK4
        have hQ4 : Src w4 g (k + 2 + 108 * m + 4 + 2) := hd4.src
        have HS4 := hid hS4
        have hsl : SlA _ 0 2 encItem _ xs := (hS4.slo (fun _ => rfl)).1.mono (Nat.zero_le _)
        clear hd2 hd3 hd4 hK4
        go_wp2_with fail
        refine (c_l24Put _ xs ⟨ky, tx⟩ _ hsl (by omega)).mono ?_
        rintro e w6 ⟨u6, ys, rfl, hb6, hs6, hl6, hm6⟩
        have P := putI HS4.out hb6 hs6 hl6 hm6 hxl ⟨Hky.out, by simp; omega⟩ hok.out
        have hQ6 := hid (hQ4.below hb6)
        have HP := hid P
        clear P hb6 hs6 hl6 hm6 hS4 hQ4 hsl
        go_wp2_with fail
        go_roundw
        case rel => exact ⟨j - 1, m + 1, ys, (by rw [show ((j - 1 : Nat) : Int) = (j : Int) - 1 by omega]), by have := HJ.out; omega, HP.out.2.1, hid HP.out.2.2, HP.out.1, hQ6.out.mono (by omega)⟩
        case measure => simp [intOf]; omega
      · go_wp2_with fail
        refine (c_word g (k + 2 + 108 * m + 6) _ _ hd4.src (by omega) (by omega) (by omega)).mono ?_
        rintro e w5 ⟨wd, rfl, hwd, hd5⟩
        have hz5 := hd5.size
        have hK4 : Kept (fun b => b = g) wr w5 := by (repeat' (first | (with_reducible exact Kept.refl _ _) | (with_reducible refine Kept.alloc' ?_ _) | (with_reducible refine Kept.setNew ?_ ?_ _) | (with_reducible refine Kept.drew ?_) | (with_reducible refine Kept.drewN ?_ _) | (with_reducible apply Kept.viaD; with_reducible assumption) | (with_reducible apply Kept.viaB; with_reducible assumption) | (with_reducible apply Kept.viaO; with_reducible assumption) | omega | (simp; done) | (simp; omega)))
        have hS4 := HS.out.only hK4
        have hQ4 : Src w5 g (k + 2 + 108 * m + 6 + 102) := hd5.src
        have HS4 := hid hS4
        have hsl : SlA _ 0 2 encItem _ xs := (hS4.slo (fun _ => rfl)).1.mono (Nat.zero_le _)
        clear hd2 hd3 hd4 hd5 hK4
        go_wp2_with fail
        refine (c_l24Put _ xs ⟨ky, tx ++ wd⟩ _ hsl (by omega)).mono ?_
        rintro e w6 ⟨u6, ys, rfl, hb6, hs6, hl6, hm6⟩
        have P := putI HS4.out hb6 hs6 hl6 hm6 hxl ⟨Hky.out, by simp [ByteArray.size_append]; omega⟩ hok.out
        have hQ6 := hid (hQ4.below hb6)
        have HP := hid P
        clear P hb6 hs6 hl6 hm6 hS4 hQ4 hsl
        go_wp2_with fail
        go_roundw
        case rel => exact ⟨j - 1, m + 1, ys, (by rw [show ((j - 1 : Nat) : Int) = (j : Int) - 1 by omega]), by have := HJ.out; omega, HP.out.2.1, hid HP.out.2.2, HP.out.1, hQ6.out.mono (by omega)⟩
        case measure => simp [intOf]; omega
    · have hltI : ¬ (0 : Int) < j := by omega
      go_wp2_with fail
      go_ret
      exact ⟨_, xs, rfl, HS.out, hQ.mono (by omega), by omega, hok.out⟩
theorem wpList_pushE {ops : Array Oper} {rest : List Oper} {o : Oper} {a : Act} {Q : Exit → Act → World → Prop} {W w : World} {g : Nat} {v : Value} {xs : List ItemD} {cs : Array Value} (y : ItemD) (hgd : o.guard = none) (s x : Operand)
    (ho : o.op = .call { callee := .builtin .append, args := #[s, x], argTypes := #[24, 24] }) (hs : a.eval s = v) (hA : AccD W g 34 2 encItem w v xs) (c : Nat) (hx : a.eval x = .slice (some ⟨w.heap.size, 0, none⟩) 1 c) (hl : xs.length ≤ 100) (hcs : cs = #[.string y.fKey, .string y.fText])
    (h : ∀ v' w', AccD W g 34 2 encItem w' v' (xs ++ [y]) → Kept (fun b => v.ownBlock = some b) w w' → (v'.ownBlock = v.ownBlock ∨ v'.ownBlock = some (w.heap.size + 1)) → wpList Tryd.prog ops Q rest (a.put o.dst v') w') : wpList Tryd.prog ops Q (o :: rest) a (w.alloc (.cells cs 34)) := by
  obtain ⟨i0, hi, iz0, iz1, iz2⟩ := info_parts info_Itm
  subst hcs
  exact wpList_pushD (α := ItemD) (enc := encItem) hgd s x 24 ho i0 _ 32 Tryd.underlying24 hi iz0 iz1 iz2 rfl (by decide) (fun _ => rfl) y hs hA 34 c hx (one_encIt _) (by unfold maxLen; omega) (by omega) h
theorem cv_row {w : World} {xs : List Int} {n c : Nat} (hn : n = xs.length) :
    (convert 22 9 (.slice (some ⟨w.heap.size, 0, none⟩) n c)).run Tryd.prog (w.alloc (.cells (xs.map (Value.int .u8)).toArray 5)) = .ok (.string (strOfNums xs)) (w.alloc (.cells (xs.map (Value.int .u8)).toArray 5)) :=
  run_convert_bytes_arg _ 22 5 Tryd.underlying22 Tryd.underlying5 w.heap.size 0 n c xs hn.symm (fun i hi => by
    have hx : i < xs.length := by omega
    have := cells_new w (xs.map (Value.int .u8)) 5 i (.int .u8 (xs.getD i 0)) (by simp [List.getD_eq_getElem?_getD, hx])
    rw [Addr.add_lit] at this
    exact this) 9 Tryd.underlying9
theorem cv_two (w : World) (x y : Int) : (convert 22 9 (.slice (some ⟨w.heap.size, 0, none⟩) 2 2)).run Tryd.prog (w.alloc (.cells #[.int .u8 x, .int .u8 y] 5)) = .ok (.string (strOfNums [x, y])) (w.alloc (.cells #[.int .u8 x, .int .u8 y] 5)) :=
  cv_row (xs := [x, y]) rfl
theorem cv_made (w : World) (n : Nat) : (convert 22 9 (.slice (some ⟨w.heap.size, 0, none⟩) n n)).run Tryd.prog (w.alloc (.cells (madeCells #[.int .u8 0] n) 5)) = .ok (.string (strOfNums (List.replicate n 0))) (w.alloc (.cells (madeCells #[.int .u8 0] n) 5)) := by
  have h : madeCells #[Value.int .u8 0] n = ((List.replicate n (0 : Int)).map (Value.int .u8)).toArray := by
    apply Array.ext'
    rw [toList_madeCells_one]; simp
  rw [h]
  exact cv_row (by simp)
theorem AccD.head {W w : World} {g : Nat} {v : Value} {d : ItemD} {tl : List ItemD} (h : AccD W g 34 2 encItem w v (d :: tl)) :
    ∃ b cap, v = .slice (some ⟨b, 0, none⟩) (tl.length + 1) cap ∧ tl.length + 1 ≤ cap ∧ cap ≤ 9223372036854775807 ∧ b < w.heap.size ∧ W.heap.size ≤ b ∧ w.cell? ⟨b, 1, none⟩ = some (.string d.fText) ∧ (∀ j, w.frozen? ⟨b, j, none⟩ = false) ∧
      ∀ z, AccD W g 34 2 encItem (w.setCell ⟨b, 1, none⟩ (.string z)) v (⟨d.fKey, z⟩ :: tl) := by
  obtain ⟨⟨h0, h1⟩, h2, h3⟩ := h
  simp only [List.length_cons] at h0 h1
  rcases h1 with ⟨_, h1⟩ | ⟨b, cap, cur, rfl, hg, hh, hc, hm, hsz, ht⟩
  · omega
  · unfold maxLen at hm
    have hlt := (Array.getElem?_eq_some_iff.1 hh).1
    have hmul : (tl.length + 1) * 2 ≤ cap * 2 := Nat.mul_le_mul_right 2 hc
    have hj2 : 1 < cur.size := by omega
    refine ⟨b, cap, rfl, hc, hm, hlt, hg, ?_, fun j => frozen_of_row w b j cur _ hh, fun z => ⟨⟨by simpa [encItem] using h0, .inr ⟨b, cap, cur.setIfInBounds 1 (.string z), by simp, hg, ?_, by simpa using hc, by unfold maxLen; exact hm, by simpa using hsz, ?_⟩⟩, ?_, h3⟩⟩
    · rw [cell_of_row w b _ cur _ _ hh, Array.getElem?_eq_getElem hj2]
      congr 1
      have : (cur.toList.take ((tl.length + 1) * 2))[1]? = ((d :: tl).flatMap encItem)[1]? := by rw [ht]
      rw [List.getElem?_take_of_lt (by omega)] at this
      simp [encItem] at this
      rw [Array.getElem?_eq_getElem hj2] at this
      exact Option.some.inj this
    · exact heap_setCell_same w b _ cur _ _ hh
    · simp only [List.length_cons, Array.toList_setIfInBounds]
      rw [List.take_set, ht]
      simp [encItem]
    · exact h2.setNew hg _
set_option maxHeartbeats 4000000 in
theorem c_l24Draw (g k : Nat) (w : World) (h : Src w g k) (hk : k ≤ 50000) :
    Calls Tryd.prog 14 #[.pointer (some ⟨g, 0, none⟩)] w (ItsR g (k + 560) 41 w) := by
  have hg := h.lt
  obtain ⟨i0, hi, iz0, iz1, iz2⟩ := info_parts info_Itm
  go_enter Tryd.func14, Tryd.ntmps14
  go_wp2_with fail
  refine (c_l24DrawOk g k _ (by (repeat' (first | (with_reducible assumption) | (with_reducible apply Drew.src; with_reducible assumption) | (with_reducible apply Src.viaB; with_reducible assumption) | (with_reducible refine Src.alloc ?_ _) | (with_reducible refine Src.setFar ?_ ?_ _) | (with_reducible refine Src.drew ?_) | (with_reducible refine Src.drewN ?_ _) | omega | (simp; done) | (simp; omega)))) (by omega)).mono ?_
  rintro e w1 ⟨u, xs, rfl, hA1, hQ1, hl1, hm1⟩
  have hz1 := hA1.kept.size
  have HM := hid hm1
  clear hm1
  go_wp2_with fail
  refine (c_pick g (k + 542) _ _ (by (repeat' (first | (with_reducible assumption) | (with_reducible apply Drew.src; with_reducible assumption) | (with_reducible apply Src.viaB; with_reducible assumption) | (with_reducible refine Src.alloc ?_ _) | (with_reducible refine Src.setFar ?_ ?_ _) | (with_reducible refine Src.drew ?_) | (with_reducible refine Src.drewN ?_ _) | omega | (simp; done) | (simp; omega)))) (by omega) (by omega)).mono ?_
  rintro e w2 ⟨x, rfl, hx, hd2⟩
  have hA2 := hA1.by hd2
  have hz2 := hd2.size
  have hQ2 := hd2.src
  clear hx hd2 hQ1 hA1
  by_cases h0 : x = 0
  · subst h0
    go_wp2_with fail
    refine (c_text g (k + 542 + 2) _ _ _ (by (repeat' (first | (with_reducible assumption) | (with_reducible apply Drew.src; with_reducible assumption) | (with_reducible apply Src.viaB; with_reducible assumption) | (with_reducible refine Src.alloc ?_ _) | (with_reducible refine Src.setFar ?_ ?_ _) | (with_reducible refine Src.drew ?_) | (with_reducible refine Src.drewN ?_ _) | omega | (simp; done) | (simp; omega)))) (by omega) (by first | exact (lit_at (enc := encT) (fun _ => rfl) [⟨#[65]⟩, ⟨#[]⟩, ⟨#[97]⟩, ⟨#[122, 122]⟩] rfl (by first | rfl | (simp; done)) (by first | omega | (simp; omega)) rfl rfl (by simp) (by simp)) | exact Lit.drew (lit_at (enc := encT) (fun _ => rfl) [⟨#[65]⟩, ⟨#[]⟩, ⟨#[97]⟩, ⟨#[122, 122]⟩] rfl (by first | rfl | (simp; done)) (by first | omega | (simp; omega)) rfl rfl (by simp) (by simp)) | fail)).mono ?_
    rintro e w3 ⟨ky, rfl, hky, hd3⟩
    have hky2 := hid (show smallI ⟨ky, ⟨#[]⟩⟩ by simp only [List.mem_cons, List.not_mem_nil, or_false] at hky; rcases hky with rfl | rfl | rfl | rfl <;> exact ⟨by decide, by decide⟩)
    have hK3 : Kept (fun b => b = g) w2 w3 := by (repeat' (first | (with_reducible exact Kept.refl _ _) | (with_reducible refine Kept.alloc' ?_ _) | (with_reducible refine Kept.setNew ?_ ?_ _) | (with_reducible refine Kept.drew ?_) | (with_reducible refine Kept.drewN ?_ _) | (with_reducible apply Kept.viaD; with_reducible assumption) | (with_reducible apply Kept.viaB; with_reducible assumption) | (with_reducible apply Kept.viaO; with_reducible assumption) | omega | (simp; done) | (simp; omega)))
    have HA3 := hid (hA2.only hK3)
    have hQ3 := hd3.src
    clear hky hK3 hd3 hA2 hQ2
    go_wp2_with (at_builtin; refine wpList_pushD (α := ItemD) rfl (.tmp 13) (.tmp 18) 24 rfl i0 _ 32 Tryd.underlying24 hi iz0 iz1 iz2 rfl (by decide) (fun _ => rfl) ⟨ky, ⟨#[]⟩⟩ rfl HA3.out 34 1 (by first | rfl | (rw [size_drewN]; rfl)) (one_encIt _) (by unfold maxLen; omega) (by omega) ?_; intro v4 w4 hA4 hK4 hat4)
    go_ret
    exact ⟨v4, xs ++ [⟨ky, ⟨#[]⟩⟩], rfl, hA4, (hQ3.kept hK4 fun b hb => by have := HA3.out.far b hb; omega).mono (by omega), by simp; omega, fun y hy => (List.mem_append.1 hy).elim (HM.out y) (fun e => by rw [List.mem_singleton.1 e]; exact hky2.out)⟩
  · by_cases h1 : x = 1
    · subst h1
      go_wp2_with fail
      refine (c_among g (k + 542 + 2) _ _ _ (by (repeat' (first | (with_reducible assumption) | (with_reducible apply Drew.src; with_reducible assumption) | (with_reducible apply Src.viaB; with_reducible assumption) | (with_reducible refine Src.alloc ?_ _) | (with_reducible refine Src.setFar ?_ ?_ _) | (with_reducible refine Src.drew ?_) | (with_reducible refine Src.drewN ?_ _) | omega | (simp; done) | (simp; omega)))) (by omega) (by first | exact (lit_at (enc := encI) (fun _ => rfl) [40, 41] rfl (by first | rfl | (simp; done)) (by first | omega | (simp; omega)) rfl rfl (by simp) (by simp)) | exact Lit.drew (lit_at (enc := encI) (fun _ => rfl) [40, 41] rfl (by first | rfl | (simp; done)) (by first | omega | (simp; omega)) rfl rfl (by simp) (by simp)) | fail)).mono ?_
      rintro e w3 ⟨n, rfl, hn, hd3⟩
      obtain ⟨N, rfl⟩ : ∃ N : Nat, n = N := ⟨n.toNat, by simp at hn; omega⟩
      have hN : N ≤ 41 := by simp at hn; omega
      have hz3 := hd3.size
      simp at hz3
      have hA3 : AccD w g 34 2 encItem (w3.alloc (.cells #[] 34)) (.slice (some ⟨w3.heap.size, 0, none⟩) 0 0) ([] : List ItemD) := AccD.lit (hA2.kept.trans (by (repeat' (first | (with_reducible exact Kept.refl _ _) | (with_reducible refine Kept.alloc' ?_ _) | (with_reducible refine Kept.setNew ?_ ?_ _) | (with_reducible refine Kept.drew ?_) | (with_reducible refine Kept.drewN ?_ _) | (with_reducible apply Kept.viaD; with_reducible assumption) | (with_reducible apply Kept.viaB; with_reducible assumption) | (with_reducible apply Kept.viaO; with_reducible assumption) | omega | (simp; done) | (simp; omega))))) hg _ _ _
      have hQ3 := hd3.src
      clear hn hd3 hA2 hQ2
      go_wp2_with fail
      go_loopw [3, 5] (fun v i wr => ∃ (j : Nat) (ys : List ItemD), i = .int .i64 j ∧ j ≤ N ∧ ys.length = j ∧ Hid (∀ x ∈ ys, smallI x) ∧ AccD w g 34 2 encItem wr v ys ∧ Src wr g (k + 546)) (fun _ i _ => N - (intOf i).toNat)
      case atStart => exact ⟨0, [], rfl, Nat.zero_le _, rfl, hid (by simp), hA3, by (repeat' (first | (with_reducible assumption) | (with_reducible apply Drew.src; with_reducible assumption) | (with_reducible apply Src.viaB; with_reducible assumption) | (with_reducible refine Src.alloc ?_ _) | (with_reducible refine Src.setFar ?_ ?_ _) | (with_reducible refine Src.drew ?_) | (with_reducible refine Src.drewN ?_ _) | omega | (simp; done) | (simp; omega)))⟩
      case round =>
        clear hA3 hQ3
        obtain ⟨j, ys, rfl, hj, hyl, hok, hA, hQ⟩ := hrel
        by_cases hlt : j < N
        · have hltI : (j : Int) < N := by omega
          have hcv := fun w => cv_two w (97 + (j : Int) / 10) (48 + (j : Int) % 10)
          obtain ⟨z, hz⟩ : ∃ z, z = strOfNums [97 + (j : Int) / 10, 48 + (j : Int) % 10] := ⟨_, rfl⟩
          have hzs : z.size = 2 := by rw [hz, strOf_size]; rfl
          rw [← hz] at hcv
          have HA := hid hA
          have HY := hid hyl
          have hy41 : ys.length ≤ 41 := by omega
          have HB := hid (fun o : Obj => hA.alloc o)
          clear hz hA hyl
          go_wp2_with (at_builtin; go_loud (refine wpList_pushE (xs := ys) ⟨⟨#[107]⟩ ++ z, ⟨#[]⟩⟩ rfl (.tmp 31) (.tmp 44) rfl rfl (HB.out _) 1 (by first | rfl | (rw [size_drewN]; rfl) | (rw [World.size_alloc]; done) | (rw [World.size_alloc]; rfl) | (simp [go_sem]; done)) (by omega) rfl ?_); intro v4 w4 hA4 hK4 hat4)
          go_roundw
          case rel => exact ⟨j + 1, ys ++ [⟨⟨#[107]⟩ ++ z, ⟨#[]⟩⟩], by go_num, by omega, by simp; exact HY.out, hid (fun y hy => (List.mem_append.1 hy).elim (hok.out y) (fun e => by rw [List.mem_singleton.1 e]; exact ⟨by simp [ByteArray.size_append]; have : (⟨#[107]⟩ : ByteArray).size = 1 := rfl; omega, Nat.zero_le _⟩)), hA4, hQ.kept ((Kept.of (Below.refl _ _)).trans ((Kept.of (by (repeat' (first | (with_reducible exact Below.refl _ _) | (with_reducible refine Below.alloc ?_ ?_ _) | (with_reducible refine Below.drew ?_) | (with_reducible refine below_drewN ?_ _) | (with_reducible refine Below.setCell ?_ ?_ _) | (with_reducible refine below_via ‹_› ?_ ?_) | (with_reducible refine below_grow ?_ ?_ _ _) | omega | (simp; done) | (simp; omega))))).trans hK4)) fun b hb => by have := HA.out.far b hb; omega⟩
          case measure => simp [intOf]; omega
        · have hltI : ¬ (j : Int) < N := by omega
          go_wp2_with fail
          go_ret
          exact ⟨_, ys, rfl, hA, hQ.mono (by omega), by omega, hok.out⟩
    · by_cases h2 : x = 2
      · subst h2
        cases xs with
        | nil =>
          have hu : ∃ ad cap, u = .slice ad 0 cap := by
            rcases hA2.own.2 with ⟨rfl, _⟩ | ⟨g', cap, cur, rfl, -⟩
            · exact ⟨none, 0, rfl⟩
            · exact ⟨_, cap, rfl⟩
          obtain ⟨ad, cap, rfl⟩ := hu
          go_wp2_with fail
          go_ret
          exact ⟨_, [], rfl, hA2, hQ2.mono (by omega), by simp, by simp⟩
        | cons d tl =>
          obtain ⟨b, cap, rfl, hc, hm, hb, hW, x1, hf, hset⟩ := hA2.head
          clear hset x1 hf
          have hpI : (0 : Int) < (tl.length + 1 : Nat) := by omega
          go_wp2_with fail
          refine (c_among g (k + 542 + 2) _ _ _ (by (repeat' (first | (with_reducible assumption) | (with_reducible apply Drew.src; with_reducible assumption) | (with_reducible apply Src.viaB; with_reducible assumption) | (with_reducible refine Src.alloc ?_ _) | (with_reducible refine Src.setFar ?_ ?_ _) | (with_reducible refine Src.drew ?_) | (with_reducible refine Src.drewN ?_ _) | omega | (simp; done) | (simp; omega)))) (by omega) (by first | exact (lit_at (enc := encI) (fun _ => rfl) [400, 401] rfl (by first | rfl | (simp; done)) (by first | omega | (simp; omega)) rfl rfl (by simp) (by simp)) | exact Lit.drew (lit_at (enc := encI) (fun _ => rfl) [400, 401] rfl (by first | rfl | (simp; done)) (by first | omega | (simp; omega)) rfl rfl (by simp) (by simp)) | fail)).mono ?_
          rintro e w3 ⟨n, rfl, hn, hd3⟩
          obtain ⟨N, rfl⟩ : ∃ N : Nat, n = N := ⟨n.toNat, by simp at hn; omega⟩
          have hN : N = 400 ∨ N = 401 := by simp at hn; omega
          have hA3 := hA2.only (w' := w3) (by (repeat' (first | (with_reducible exact Kept.refl _ _) | (with_reducible refine Kept.alloc' ?_ _) | (with_reducible refine Kept.setNew ?_ ?_ _) | (with_reducible refine Kept.drew ?_) | (with_reducible refine Kept.drewN ?_ _) | (with_reducible apply Kept.viaD; with_reducible assumption) | (with_reducible apply Kept.viaB; with_reducible assumption) | (with_reducible apply Kept.viaO; with_reducible assumption) | omega | (simp; done) | (simp; omega))))
          obtain ⟨b', cap', e', hc', hm', hb', hW', x1, hf, hset⟩ := hA3.head
          injection e' with e1 e2 e3
          injection e1 with e1; injection e1 with e1
          subst e1; subst e3
          have hmk := fun w => run_make_row' (P := Tryd.prog) 22 5 (.int .u8 0) 1 Tryd.underlying22 info_U8 rfl .i64 .i64 N (by omega) (by omega) w
          have hcv := fun w => cv_made w N
          obtain ⟨z, hz⟩ : ∃ z, z = strOfNums (List.replicate N 0) := ⟨_, rfl⟩
          have hzs : z.size = N := by rw [hz, strOf_size]; simp
          rw [← hz] at hcv
          clear hz
          go_wp2_with fail
          go_ret
          exact ⟨.slice (some ⟨b, 0, none⟩) (tl.length + 1) cap, ⟨d.fKey, z⟩ :: tl, rfl, (hset z).below (by (repeat' (first | (with_reducible exact Below.refl _ _) | (with_reducible refine Below.alloc ?_ ?_ _) | (with_reducible refine Below.drew ?_) | (with_reducible refine below_drewN ?_ _) | (with_reducible refine Below.setCell ?_ ?_ _) | (with_reducible refine below_via ‹_› ?_ ?_) | (with_reducible refine below_grow ?_ ?_ _ _) | omega | (simp; done) | (simp; omega)))), Src.mono (k := k + 542 + 2 + 2) (by (repeat' (first | (with_reducible assumption) | (with_reducible apply Drew.src; with_reducible assumption) | (with_reducible apply Src.viaB; with_reducible assumption) | (with_reducible refine Src.alloc ?_ _) | (with_reducible refine Src.setFar ?_ ?_ _) | (with_reducible refine Src.drew ?_) | (with_reducible refine Src.drewN ?_ _) | omega | (simp; done) | (simp; omega)))) (by omega), by simp at hl1 ⊢; omega, fun y hy => (List.mem_cons.1 hy).elim (fun e => by rw [e]; exact ⟨(HM.out d (List.mem_cons_self ..)).1, by rw [hzs]; omega⟩) (fun h => HM.out y (List.mem_cons_of_mem _ h))⟩
      · go_wp2_with fail
        go_ret
        exact ⟨_, xs, rfl, hA2, hQ2.mono (by omega), by omega, HM.out⟩
theorem c_DrawSaveItems (v : Value) (bs : List Int) (w : World) (h : SlA w 0 1 encU v bs) (hl : bs.length ≤ 1048576) (hb : ∀ x ∈ bs, 0 ≤ x ∧ x ≤ 255) :
    Calls Tryd.prog 5 #[v] w fun e w' => ∃ (u : Value) (xs : List ItemD), e = .returned u ∧ Below w.heap.size w w' ∧ SlO w' w.heap.size 2 encItem u xs ∧ xs.length ≤ 41 ∧ ∀ x ∈ xs, smallI x := by
  go_enter Tryd.func5, Tryd.ntmps5
  go_wp2_with fail
  refine (c_l00From v bs _ (by first | (with_reducible assumption) | (with_reducible apply SlO.at; (with_reducible assumption); (repeat' (first | (with_reducible exact Below.refl _ _) | (with_reducible refine Below.alloc ?_ ?_ _) | (with_reducible refine Below.drew ?_) | (with_reducible refine below_drewN ?_ _) | (with_reducible refine Below.setCell ?_ ?_ _) | (with_reducible refine below_via ‹_› ?_ ?_) | (with_reducible refine below_grow ?_ ?_ _ _) | omega | (simp; done) | (simp; omega))); done) | (with_reducible apply SlA.at; (with_reducible assumption); (repeat' (first | (with_reducible exact Below.refl _ _) | (with_reducible refine Below.alloc ?_ ?_ _) | (with_reducible refine Below.drew ?_) | (with_reducible refine below_drewN ?_ _) | (with_reducible refine Below.setCell ?_ ?_ _) | (with_reducible refine below_via ‹_› ?_ ?_) | (with_reducible refine below_grow ?_ ?_ _ _) | omega | (simp; done) | (simp; omega))); done)) hl hb).mono ?_
  rintro e w1 ⟨g, rfl, hb1, hg, hs⟩
  have hz1 := hb1.size
  go_wp2_with fail
  refine (c_l24Draw g 0 _ hs (by omega)).mono ?_
  rintro e w2 ⟨u, xs, rfl, hA, hQ, hx, hm⟩
  have hb2 : Below w.heap.size w w2 := hb1.trans (hA.kept.below hz1 (fun k hk => by omega))
  have hS : SlO w2 w.heap.size 2 encItem u xs := (hA.slo (fun _ => rfl)).mono hz1
  have HM := hid hm
  clear hm hA hQ
  go_wp2_with fail
  go_ret
  exact ⟨u, xs, rfl, hb2, hS, hx, HM.out⟩
end Go.Proofs.YtabbhlehbhadiaaDoor
