/- What is painted, as a circle by value. -/
import Derived.Test.YtabbhlehbhadiaaGreatDoorRow
namespace Go.Proofs.YtabbhlehbhadiaaGreatDoor
open Go.RowKit Go.Sort
set_option maxRecDepth 100000

/-- the first m bearings of the next sector's round -/
def circQ (xs : List SectorD) (n m : Nat) (d : Int) : ByteArray := if hasI xs n d && decide (d < m) then cA xs n else circ xs n d
theorem circQ_zero (xs : List SectorD) (n : Nat) {d : Int} (h : 0 ≤ d) : circQ xs n 0 d = circ xs n d := by unfold circQ; rw [show decide (d < ((0 : Nat) : Int)) = false by simp; omega, Bool.and_false]; rfl
theorem circQ_full (xs : List SectorD) (n : Nat) {d : Int} (h : d < 360) : circ xs (n + 1) d = circQ xs n 360 d := by
  unfold circQ; rw [show decide (d < ((360 : Nat) : Int)) = true by simp; omega, Bool.and_true]; rfl
theorem circQ_t {xs : List SectorD} {n m : Nat} (h : hasI xs n m = true) (d : Int) : circQ xs n (m + 1) d = if d = m then cA xs n else circQ xs n m d := by
  unfold circQ
  by_cases e : d = m
  · subst e; rw [h, if_pos rfl, show decide ((m : Int) < ((m + 1 : Nat) : Int)) = true by simp; omega]; rfl
  · rw [if_neg e]
    by_cases e2 : d < m
    · rw [show decide (d < ((m + 1 : Nat) : Int)) = true by simp; omega, show decide (d < (m : Int)) = true by simpa using e2]
    · rw [show decide (d < ((m + 1 : Nat) : Int)) = false by simp; omega, show decide (d < (m : Int)) = false by simpa using e2]
theorem circQ_f {xs : List SectorD} {n m : Nat} (h : hasI xs n m = false) (d : Int) : circQ xs n (m + 1) d = circQ xs n m d := by
  unfold circQ
  by_cases e : d = m
  · subst e; rw [h]; rfl
  · by_cases e2 : d < m
    · rw [show decide (d < ((m + 1 : Nat) : Int)) = true by simp; omega, show decide (d < (m : Int)) = true by simpa using e2]
    · rw [show decide (d < ((m + 1 : Nat) : Int)) = false by simp; omega, show decide (d < (m : Int)) = false by simpa using e2]
theorem cell_far {w : World} {b o g j : Nat} {v u : Value} (h : w.cell? ⟨b, o, none⟩ = some v) (hne : b ≠ g ∨ o ≠ j) : (w.setCell ⟨g, j, none⟩ u).cell? ⟨b, o, none⟩ = some v := by
  rw [World.cell?_setCell_other w _ _ _ (fun hh => by have := (Addr.mk.injEq .. ▸ hh); omega)]; exact h
theorem size_set (w : World) (p : Addr) (u : Value) : (w.setCell p u).heap.size = w.heap.size := by simp [World.setCell]
set_option maxHeartbeats 4000000 in
theorem c_painted (v : Value) (xs : List SectorD) (w : World) (h : SlA w 0 3 encSector v xs) (hs : secB xs = true) :
    Calls Tryz.prog 52 #[v] w fun e w' => e = .returned (.agg (circA (circ xs xs.length))) ∧ Below w.heap.size w w' := by
  obtain ⟨ad, cap, b, off, rfl, hm, had, hx⟩ := h.uni
  obtain ⟨h12, hbe, -⟩ := secB_all hs
  have HX := hid hx
  have HBE := hid hbe
  clear hx hbe
  go_enter Tryz.func52, Tryz.ntmps52
  go_wp2_with (refine wpList_store_row rfl 85 (.tmp 3) (.tmp 7) rfl (w.heap.size + 1) Tryz.zeroCells85 rfl rfl 85 Tryz.zeroCells85 (by have := heap_alloc_new (w.alloc (.cells Tryz.zeroCells85 85)) (.cells Tryz.zeroCells85 85); simpa using this) (by rw [zc_circle, circA_size]; exact info_circle) rfl (by rw [zc_circle]; exact circA_one _) ?_)
  obtain ⟨wa, hwa⟩ : ∃ z, z = ((w.alloc (.cells Tryz.zeroCells85 85)).alloc (.cells Tryz.zeroCells85 85)).setRow (w.heap.size + 1) Tryz.zeroCells85 := ⟨_, rfl⟩
  rw [← hwa]
  have hR0 : RowC wa w.heap.size dark := by
    rw [hwa]; refine row_setRow ?_ (by omega)
    unfold RowC; rw [heap_alloc_old _ _ (by simp), heap_alloc_new, zc_circle]
  have hC0 : RowC wa (w.heap.size + 1) dark := by
    rw [hwa, zc_circle]; refine setRow_row (c := dark) ?_
    have := RowC.new (w.alloc (.cells (circA dark) 85)) dark
    simpa using this
  have hB0 : Below w.heap.size w wa := by rw [hwa]; exact below_setRow (by (repeat' (first | (with_reducible exact Below.refl _ _) | (with_reducible refine Below.alloc ?_ ?_ _) | (with_reducible refine Below.drew ?_) | (with_reducible refine below_drewN ?_ _) | (with_reducible refine Below.setCell ?_ ?_ _) | (with_reducible refine below_via ‹_› ?_ ?_) | (with_reducible refine below_grow ?_ ?_ _ _) | omega | (simp; done) | (simp; omega)))) (by omega)
  have hC0' : RowC wa (w.heap.size + 1) (circ xs 0) := hC0
  clear hwa hC0
  go_loopw [10] (fun i wr => ∃ k : Nat, k ≤ xs.length ∧ i = .int .i64 k ∧ RowC wr (w.heap.size + 1) (circ xs k) ∧ RowC wr w.heap.size dark ∧ Below w.heap.size w wr) (fun i _ => xs.length - (intOf i).toNat)
  case atStart => exact ⟨0, Nat.zero_le _, rfl, hC0', hR0, hB0⟩
  case round =>
    clear hC0' hR0 hB0
    obtain ⟨k, hk, rfl, hC, hR, hB⟩ := hrel
    obtain ⟨wo, rfl⟩ : ∃ wo : World, wo = wr := ⟨_, rfl⟩
    have HC := hid hC; have HR := hid hR; clear hC hR
    have hzr := hB.size
    have hz1 := HC.out.lt
    by_cases hlt : k < xs.length
    · have hlI : (k : Int) < xs.length := by omega
      obtain ⟨rfl, hbb, -, hcc, hmc⟩ := had (by omega)
      have hb2 := HBE.out k hlt
      have HA := hid (fun d => show hasI xs k d = decide ((d - fA xs k) % 360 < arcV (fA xs k) (tA xs k)) from rfl)
      have HCK := hid (cA_get hlt)
      have HQT := hid (fun m (h : hasI xs k ((m : Nat) : Int) = true) d => circQ_t h d)
      have HQF := hid (fun m (h : hasI xs k ((m : Nat) : Int) = false) d => circQ_f h d)
      have HQ0 := hid (fun d h => circQ_zero xs k (d := d) h)
      have HQ1 := hid (fun d h => circQ_full xs k (d := d) h)
      rw [fA_get hlt, tA_get hlt] at hb2 HA
      obtain ⟨hf, ht⟩ := hb2
      have hx0 := below_cell hB hbb (HX.out k hlt 0 (by omega))
      have hx1 := below_cell hB hbb (HX.out k hlt 1 (by omega))
      have hx2 := below_cell hB hbb (HX.out k hlt 2 (by omega))
      simp only [encSector, List.getD_cons_zero, List.getD_cons_succ, Nat.add_zero] at hx0 hx1 hx2
      obtain ⟨f, hfe⟩ : ∃ f, f = xs[k].fFrom := ⟨_, rfl⟩
      obtain ⟨t, hte⟩ : ∃ t, t = xs[k].fTo := ⟨_, rfl⟩
      obtain ⟨c, hce⟩ : ∃ c, c = xs[k].fColor := ⟨_, rfl⟩
      rw [← hfe] at hx0 hf HA
      rw [← hte] at hx1 ht HA
      rw [← hce] at hx2 HCK
      have hfb := inB_true hf
      clear hfe hte hce
      go_wp2
      obtain ⟨w5, hw5⟩ : ∃ z, z = wo.alloc (Obj.cells #[.int .i64 f, .int .i64 t, .string c] 45) := ⟨_, rfl⟩
      rw [← hw5]
      have hB5 : Below wo.heap.size wo w5 := by rw [hw5]; (repeat' (first | (with_reducible exact Below.refl _ _) | (with_reducible refine Below.alloc ?_ ?_ _) | (with_reducible refine Below.drew ?_) | (with_reducible refine below_drewN ?_ _) | (with_reducible refine Below.setCell ?_ ?_ _) | (with_reducible refine below_via ‹_› ?_ ?_) | (with_reducible refine below_grow ?_ ?_ _ _) | omega | (simp; done) | (simp; omega)))
      have s0 : w5.cell? ⟨wo.heap.size, 0, none⟩ = some (.int .i64 f) := by rw [hw5]; simp [go_sem]
      have s1 : w5.cell? ⟨wo.heap.size, 1, none⟩ = some (.int .i64 t) := by rw [hw5]; simp [go_sem]
      have s2 : w5.cell? ⟨wo.heap.size, 2, none⟩ = some (.string c) := by rw [hw5]; simp [go_sem]
      have hz5 : wo.heap.size < w5.heap.size := by rw [hw5]; simp
      have hC5 : RowC w5 (w.heap.size + 1) (circQ xs k 0) := (HC.out.below hB5).congr fun d h0 _ => HQ0.out d h0
      have hR5 := HR.out.below hB5
      have hBw : Below w.heap.size w w5 := hB.trans (hB5.mono (by omega))
      clear hw5 hx0 hx1 hx2
      go_loopw [14] (fun i wr => ∃ m : Nat, m ≤ 360 ∧ i = .int .i64 m ∧ RowC wr (w.heap.size + 1) (circQ xs k m) ∧ RowC wr w.heap.size dark ∧ wr.cell? ⟨wo.heap.size, 0, none⟩ = some (.int .i64 f) ∧ wr.cell? ⟨wo.heap.size, 1, none⟩ = some (.int .i64 t) ∧ wr.cell? ⟨wo.heap.size, 2, none⟩ = some (.string c) ∧ wo.heap.size < wr.heap.size ∧ Below w.heap.size w wr) (fun i _ => 360 - (intOf i).toNat)
      case atStart => exact ⟨0, by omega, rfl, hC5, hR5, s0, s1, s2, hz5, hBw⟩
      case round =>
        clear hC5 hR5 s0 s1 s2 hz5 hBw hB5
        obtain ⟨m, hm3, rfl, hC, hR, s0, s1, s2, hz6, hBw⟩ := hrel
        have HC := hid hC; have HR := hid hR
        have hzw := hBw.size
        have hlt1 := hC.lt
        by_cases hmt : m < 360
        · have hmI : (m : Int) < 360 := by omega
          have c1 := hC.cell hmt
          have c2 := hC.frozen m
          have HV := hid (show hasV f t (m : Int) = hasI xs k m by rw [HA.out, hasV, IntWalk.wrap64_in _ ⟨by omega, by omega⟩])
          have hI : I64 (m : Int) := ⟨by omega, by omega⟩
          have ch := fun wq => c_has f t c (m : Int) wq hf ht hI
          rw [HV.out] at ch
          clear hC hR
          cases hq : hasI xs k m
          · have HQ := hid hq
            rw [hq] at ch
            clear hq
            go_wp2_with (go_at_call 53; refine (ch _).mono ?_; rintro e w1 ⟨rfl, hb⟩; obtain ⟨hc, hf⟩ := bcell hb; have hz := hb.size; (try simp at hz); (try have hz0 : ∀ b, b < w.heap.size → b < w1.heap.size := fun b h => by omega); (try have hz1 : w.heap.size < w1.heap.size := by omega); (try have hz2 : w.heap.size + 1 < w1.heap.size := by omega); (try have hz3 : w.heap.size + 2 < w1.heap.size := by omega))
            go_roundw
            case rel => exact ⟨m + 1, by omega, by go_num, (HC.out.below (by (repeat' (first | (with_reducible exact Below.refl _ _) | (with_reducible refine Below.alloc ?_ ?_ _) | (with_reducible refine Below.drew ?_) | (with_reducible refine below_drewN ?_ _) | (with_reducible refine Below.setCell ?_ ?_ _) | (with_reducible refine below_via ‹_› ?_ ?_) | (with_reducible refine below_grow ?_ ?_ _ _) | omega | (simp; done) | (simp; omega))))).congr fun d _ _ => HQF.out m HQ.out d, HR.out.below (by (repeat' (first | (with_reducible exact Below.refl _ _) | (with_reducible refine Below.alloc ?_ ?_ _) | (with_reducible refine Below.drew ?_) | (with_reducible refine below_drewN ?_ _) | (with_reducible refine Below.setCell ?_ ?_ _) | (with_reducible refine below_via ‹_› ?_ ?_) | (with_reducible refine below_grow ?_ ?_ _ _) | omega | (simp; done) | (simp; omega)))), below_cell (by (repeat' (first | (with_reducible exact Below.refl _ _) | (with_reducible refine Below.alloc ?_ ?_ _) | (with_reducible refine Below.drew ?_) | (with_reducible refine below_drewN ?_ _) | (with_reducible refine Below.setCell ?_ ?_ _) | (with_reducible refine below_via ‹_› ?_ ?_) | (with_reducible refine below_grow ?_ ?_ _ _) | omega | (simp; done) | (simp; omega)))) (by omega) s0, below_cell (by (repeat' (first | (with_reducible exact Below.refl _ _) | (with_reducible refine Below.alloc ?_ ?_ _) | (with_reducible refine Below.drew ?_) | (with_reducible refine below_drewN ?_ _) | (with_reducible refine Below.setCell ?_ ?_ _) | (with_reducible refine below_via ‹_› ?_ ?_) | (with_reducible refine below_grow ?_ ?_ _ _) | omega | (simp; done) | (simp; omega)))) (by omega) s1, below_cell (by (repeat' (first | (with_reducible exact Below.refl _ _) | (with_reducible refine Below.alloc ?_ ?_ _) | (with_reducible refine Below.drew ?_) | (with_reducible refine below_drewN ?_ _) | (with_reducible refine Below.setCell ?_ ?_ _) | (with_reducible refine below_via ‹_› ?_ ?_) | (with_reducible refine below_grow ?_ ?_ _ _) | omega | (simp; done) | (simp; omega)))) (by omega) s2, by omega, by (repeat' (first | (with_reducible exact Below.refl _ _) | (with_reducible refine Below.alloc ?_ ?_ _) | (with_reducible refine Below.drew ?_) | (with_reducible refine below_drewN ?_ _) | (with_reducible refine Below.setCell ?_ ?_ _) | (with_reducible refine below_via ‹_› ?_ ?_) | (with_reducible refine below_grow ?_ ?_ _ _) | omega | (simp; done) | (simp; omega)))⟩
            case measure => simp [intOf]; omega
          · have HQ := hid hq
            rw [hq] at ch
            clear hq
            go_wp2_with (go_at_call 53; refine (ch _).mono ?_; rintro e w1 ⟨rfl, hb⟩; obtain ⟨hc, hf⟩ := bcell hb; have hz := hb.size; (try simp at hz); (try have hz0 : ∀ b, b < w.heap.size → b < w1.heap.size := fun b h => by omega); (try have hz1 : w.heap.size < w1.heap.size := by omega); (try have hz2 : w.heap.size + 1 < w1.heap.size := by omega); (try have hz3 : w.heap.size + 2 < w1.heap.size := by omega))
            go_roundw
            case rel =>
              have hC9 := HC.out.below (w' := w1) (by (repeat' (first | (with_reducible exact Below.refl _ _) | (with_reducible refine Below.alloc ?_ ?_ _) | (with_reducible refine Below.drew ?_) | (with_reducible refine below_drewN ?_ _) | (with_reducible refine Below.setCell ?_ ?_ _) | (with_reducible refine below_via ‹_› ?_ ?_) | (with_reducible refine below_grow ?_ ?_ _ _) | omega | (simp; done) | (simp; omega))))
              exact ⟨m + 1, by omega, by go_num, hC9.set c (fun d _ _ => by rw [HQT.out m HQ.out d, HCK.out]), (HR.out.below (w' := w1) (by (repeat' (first | (with_reducible exact Below.refl _ _) | (with_reducible refine Below.alloc ?_ ?_ _) | (with_reducible refine Below.drew ?_) | (with_reducible refine below_drewN ?_ _) | (with_reducible refine Below.setCell ?_ ?_ _) | (with_reducible refine below_via ‹_› ?_ ?_) | (with_reducible refine below_grow ?_ ?_ _ _) | omega | (simp; done) | (simp; omega))))).far (by simp), cell_far (below_cell (by (repeat' (first | (with_reducible exact Below.refl _ _) | (with_reducible refine Below.alloc ?_ ?_ _) | (with_reducible refine Below.drew ?_) | (with_reducible refine below_drewN ?_ _) | (with_reducible refine Below.setCell ?_ ?_ _) | (with_reducible refine below_via ‹_› ?_ ?_) | (with_reducible refine below_grow ?_ ?_ _ _) | omega | (simp; done) | (simp; omega)))) (by omega) s0) (by omega), cell_far (below_cell (by (repeat' (first | (with_reducible exact Below.refl _ _) | (with_reducible refine Below.alloc ?_ ?_ _) | (with_reducible refine Below.drew ?_) | (with_reducible refine below_drewN ?_ _) | (with_reducible refine Below.setCell ?_ ?_ _) | (with_reducible refine below_via ‹_› ?_ ?_) | (with_reducible refine below_grow ?_ ?_ _ _) | omega | (simp; done) | (simp; omega)))) (by omega) s1) (by omega), cell_far (below_cell (by (repeat' (first | (with_reducible exact Below.refl _ _) | (with_reducible refine Below.alloc ?_ ?_ _) | (with_reducible refine Below.drew ?_) | (with_reducible refine below_drewN ?_ _) | (with_reducible refine Below.setCell ?_ ?_ _) | (with_reducible refine below_via ‹_› ?_ ?_) | (with_reducible refine below_grow ?_ ?_ _ _) | omega | (simp; done) | (simp; omega)))) (by omega) s2) (by omega), by rw [size_set]; omega, by (repeat' (first | (with_reducible exact Below.refl _ _) | (with_reducible refine Below.alloc ?_ ?_ _) | (with_reducible refine Below.drew ?_) | (with_reducible refine below_drewN ?_ _) | (with_reducible refine Below.setCell ?_ ?_ _) | (with_reducible refine below_via ‹_› ?_ ?_) | (with_reducible refine below_grow ?_ ?_ _ _) | omega | (simp; done) | (simp; omega)))⟩
            case measure => simp [intOf]; omega
        · have e : m = 360 := by omega
          subst e
          have hC9 := hid (HC.out.congr fun d _ h1 => HQ1.out d h1)
          clear hC hR
          go_wp2
          go_roundw
          case rel => exact ⟨k + 1, by omega, by go_num, hC9.out, HR.out, hBw⟩
          case measure => simp [intOf]; omega
    · have e : k = xs.length := by omega
      subst e
      go_wp2_with (first | (refine wpList_load_row rfl 85 (.tmp 3) rfl (w.heap.size + 1) rfl 85 (circA (circ xs xs.length)) (0, 0) _ HC.out Tryz.underlying85 rfl (by rw [circA_size]; exact info_circle) ?_) | (refine wpList_store_row rfl 85 (.tmp 2) (.tmp 26) rfl w.heap.size (circA (circ xs xs.length)) rfl rfl 85 (circA dark) HR.out (by rw [circA_size]; exact info_circle) rfl (circA_one _) ?_))
      refine bodyPost_ret (results_cell_row rfl _ _ w.heap.size 85 (circA (circ xs xs.length)) (0, 0) _ rfl (setRow_row HR.out) Tryz.underlying85 rfl (by rw [circA_size]; exact info_circle)) rfl ⟨rfl, below_setRow hB (Nat.le_refl _)⟩
end Go.Proofs.YtabbhlehbhadiaaGreatDoor
