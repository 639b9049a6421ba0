/- All calls of a voyage; the walks of both sides. -/
import Derived.Test.YtmolcfagmiecjaaVoyW
import Derived.Test.YtmolcfagmiecjaaKCall
namespace Go.Proofs.Ytmolcfagmiecjaa
open Go.RowKit Go.Sort
set_option maxRecDepth 100000

theorem wK_nat {ws : List WorkD} {j : Nat} (h : j < ws.length) : wK ws (j : Int) = ws[j] := by rw [wK_get (by simpa using h)]; simp
theorem restC_step {sp : Int} {ws : List WorkD} {os : List Int} {k j : Nat} (hk : k < os.length) (hj : os[k] = (j : Int)) (hjl : j < ws.length) {px py t : Int} {cs : List CallD} (h : (mkC sp px py t j ws[j]).fEnd ≤ ws[j].fUntil) :
    restC sp ws (os.drop k) px py t cs = restC sp ws (os.drop (k + 1)) ws[j].fAtX ws[j].fAtY (mkC sp px py t j ws[j]).fEnd (cs ++ [mkC sp px py t j ws[j]]) := by
  have e := wK_nat hjl
  rw [drop_cons os k hk, hj, restC_ok (by rw [e]; exact h), e]
theorem restC_stop {sp : Int} {ws : List WorkD} {os : List Int} {k j : Nat} (hk : k < os.length) (hj : os[k] = (j : Int)) (hjl : j < ws.length) {px py t : Int} {cs : List CallD} (h : ¬ (mkC sp px py t j ws[j]).fEnd ≤ ws[j].fUntil) :
    restC sp ws (os.drop k) px py t cs = none := by
  have e := wK_nat hjl
  rw [drop_cons os k hk, hj, restC_late (by rw [e]; exact h)]
theorem info_Call : (Try.prog.info? 42).map (fun i => (i.zero, i.size, i.bytes)) = some (some (.agg #[.int .i64 0, .int .i64 0, .int .i64 0, .int .i64 0]), 4, 32) := by kernel_rfl
theorem one_encCall (y : CallD) : ∀ u ∈ encCall y, u.oneCell' = true := by intro u hu; simp only [encCall, List.mem_cons, List.not_mem_nil, or_false] at hu; rcases hu with rfl | rfl | rfl | rfl <;> rfl
/-- a place of the call's own -/
def Place (w : World) (g : Nat) (x y : Int) : Prop := g < w.heap.size ∧ w.cell? ⟨g, 0, none⟩ = some (.int .i64 x) ∧ w.cell? ⟨g, 1, none⟩ = some (.int .i64 y) ∧ ∀ j, w.frozen? ⟨g, j, none⟩ = false
theorem Place.below {w w' : World} {g : Nat} {x y : Int} (h : Place w g x y) (hb : Below w.heap.size w w') : Place w' g x y := by
  obtain ⟨h1, h2, h3, h4⟩ := h
  exact ⟨by have := hb.size; omega, below_cell hb h1 h2, below_cell hb h1 h3, fun j => by rw [hb.frozen (p := ⟨g, j, none⟩) h1]; exact h4 j⟩
theorem Place.grown {w w' : World} {g : Nat} {x y : Int} {r : Option Nat} (h : Place w g x y) (hg : w.grownBy w' r) (hr : r ≠ some g) : Place w' g x y := by
  obtain ⟨h1, h2, h3, h4⟩ := h
  have hb := hg.block g h1 (fun e => hr e.symm)
  exact ⟨Nat.lt_of_lt_of_le h1 hg.size, (World.cell?_of_block (a := ⟨g, 0, none⟩) hb).trans h2, (World.cell?_of_block (a := ⟨g, 1, none⟩) hb).trans h3, fun j => (World.frozen?_of_block (a := ⟨g, j, none⟩) hb).trans (h4 j)⟩
theorem Place.set {w : World} {g : Nat} {x y x' y' : Int} (h : Place w g x y) : Place ((w.setCell ⟨g, 0, none⟩ (.int .i64 x')).setCell ⟨g, 1, none⟩ (.int .i64 y')) g x' y' := by
  obtain ⟨h1, h2, h3, h4⟩ := h
  exact ⟨by rw [size_set, size_set]; exact h1, cell_far (cell_here h2) (by omega), cell_here (cell_far h3 (by omega)), fun j => by rw [World.frozen?_setCell, World.frozen?_setCell]; exact h4 j⟩
theorem cells4_new (w : World) (a b c d : Int) (T : TypeId) : Cells4 (w.alloc (.cells #[.int .i64 a, .int .i64 b, .int .i64 c, .int .i64 d] T)) w.heap.size a b c d := ⟨by simp, by simp [go_sem], by simp [go_sem], by simp [go_sem], by simp [go_sem], fun j => by simp [go_sem]⟩
theorem cells4_set {w : World} {g : Nat} {a b c d x y z u : Int} (h : Cells4 w g x y z u) : Cells4 ((((w.setCell ⟨g, 0, none⟩ (.int .i64 a)).setCell ⟨g, 1, none⟩ (.int .i64 b)).setCell ⟨g, 2, none⟩ (.int .i64 c)).setCell ⟨g, 3, none⟩ (.int .i64 d)) g a b c d := by
  obtain ⟨h1, h2, h3, h4, h5, h6⟩ := h
  refine ⟨by simp only [size_set]; exact h1, ?_, ?_, ?_, ?_, fun j => by simp only [World.frozen?_setCell]; exact h6 j⟩
  · exact cell_far (cell_far (cell_far (cell_here h2) (by omega)) (by omega)) (by omega)
  · exact cell_far (cell_far (cell_here (cell_far h3 (by omega))) (by omega)) (by omega)
  · exact cell_far (cell_here (cell_far (cell_far h4 (by omega)) (by omega))) (by omega)
  · exact cell_here (cell_far (cell_far (cell_far h5 (by omega)) (by omega)) (by omega))
theorem own_ne {v v' : Value} {p n : Nat} (h : v'.ownBlock = v.ownBlock ∨ v'.ownBlock = some n) (hv : ∀ b, v.ownBlock = some b → b ≠ p) (hn : p < n) : ∀ b, v'.ownBlock = some b → b ≠ p := fun b hb => by
  rcases h with e | e
  · exact hv b (e ▸ hb)
  · rw [e] at hb; injection hb with hb; omega
/-- after a call -/
def MaybeCalls (w w' : World) (r : Option (List CallD)) (e : Ending) : Prop :=
  ∃ u, e = .returned (.tuple #[u, .bool r.isSome]) ∧ Below w.heap.size w w' ∧ SlO w' w.heap.size 4 encCall u (r.getD [])
set_option maxHeartbeats 4000000 in
theorem c_l25Calls (bk off : Nat) (a bx bY t0 : Int) (v u : Value) (ws : List WorkD) (os : List Int) (w : World) (hbk : bk < w.heap.size) (c1 : w.cell? ⟨bk, off + 1, none⟩ = some (.int .i64 a)) (h1 : 1 ≤ a) (h2 : a ≤ 2000)
    (h : SlA w 0 7 encWork v ws) (hw : worksB ws = true) (hu : SlA w 0 1 encI u os) (ho : ordB ws.length os = true) (hl : os.length ≤ 1048576) (hp : pointB bx bY = true) (ht : 0 ≤ t0) (ht2 : t0 ≤ 4320) :
    Calls Try.prog 87 #[.pointer (some ⟨bk, off, none⟩), .agg #[.int .i64 bx, .int .i64 bY], v, u, .int .i64 t0] w fun e w' => MaybeCalls w w' (callsF a ws os bx bY t0) e := by
  obtain ⟨i0, hi, iz0, iz1, iz2⟩ := info_parts info_Call
  obtain ⟨ad, cap, b, oo, rfl, hm, had, hx⟩ := hu.uni
  obtain ⟨av, cv, bv, ov, rfl, hmv, hav, hxv⟩ := h.uni
  have HI := hid (fun i (hi : i < os.length) => ordB_nat ho hi)
  have HW := hid (fun (j : Nat) (hj : j < ws.length) => workD_true ((works_all hw).2 j hj))
  have HX := hid hx
  have HXV := hid hxv
  have R0 := hid (restC_start a ws os bx bY t0)
  clear hx hxv
  go_enter Try.func87, Try.ntmps87
  go_wp2
  obtain ⟨W1, hW1⟩ : ∃ z, z = (w.alloc (Obj.cells #[.int .i64 bx, .int .i64 bY] 33)).alloc (.cells #[] 42) := ⟨_, rfl⟩
  obtain ⟨W2, hW2⟩ : ∃ z, z = W1.alloc (Obj.cells #[.int .i64 bx, .int .i64 bY] 33) := ⟨_, rfl⟩
  rw [← hW1, ← hW2]
  have hB1 : Below w.heap.size w W1 := by rw [hW1]; (repeat' (first | (with_reducible exact Below.refl _ _) | (with_reducible refine Below.alloc ?_ ?_ _) | (with_reducible refine Below.drew ?_) | (with_reducible refine below_drewN ?_ _) | (with_reducible refine Below.setCell ?_ ?_ _) | (with_reducible refine below_via ‹_› ?_ ?_) | (with_reducible refine below_grow ?_ ?_ _ _) | omega | (simp; done) | (simp; omega)))
  have hz1 : W1.heap.size = w.heap.size + 2 := by rw [hW1]; simp
  have hA0 := hid (show Acc W1 (w.heap.size + 1) 42 4 encCall W1 (.slice (some ⟨w.heap.size + 1, 0, none⟩) 0 0) ([] : List CallD) by
    have := Acc.lit (α := CallD) (W := W1) (w0 := w.alloc (Obj.cells #[.int .i64 bx, .int .i64 bY] 33)) (e := 42) (by rw [hW1]; exact Below.refl _ _) 4 encCall
    simpa using this)
  have hP0 : Place W2 W1.heap.size bx bY := by rw [hW2]; exact ⟨by simp, by simp [go_sem], by simp [go_sem], fun j => by simp [go_sem]⟩
  have hB12 : Below W1.heap.size W1 W2 := by rw [hW2]; (repeat' (first | (with_reducible exact Below.refl _ _) | (with_reducible refine Below.alloc ?_ ?_ _) | (with_reducible refine Below.drew ?_) | (with_reducible refine below_drewN ?_ _) | (with_reducible refine Below.setCell ?_ ?_ _) | (with_reducible refine below_via ‹_› ?_ ?_) | (with_reducible refine below_grow ?_ ?_ _ _) | omega | (simp; done) | (simp; omega)))
  have hA1 := hid (hA0.out.below hB12)
  have hB2 : Below w.heap.size w W2 := by rw [hW2]; (repeat' (first | (with_reducible exact Below.refl _ _) | (with_reducible refine Below.alloc ?_ ?_ _) | (with_reducible refine Below.drew ?_) | (with_reducible refine below_drewN ?_ _) | (with_reducible refine Below.setCell ?_ ?_ _) | (with_reducible refine below_via ‹_› ?_ ?_) | (with_reducible refine below_grow ?_ ?_ _ _) | omega | (simp; done) | (simp; omega)))
  obtain ⟨pB, hpB⟩ : ∃ p, p = w.heap.size + 1 + 1 := ⟨_, rfl⟩
  rw [show W1.heap.size = pB by omega] at hP0
  rw [← hpB]
  have hpB1 : pB = W1.heap.size := by omega
  have HPB := hid hpB1
  have hpB2 : W1.heap.size ≤ pB := by omega
  have hpB3 : w.heap.size + 2 ≤ pB := by omega
  have hzz1 : W1.heap.size ≤ w.heap.size + 2 := by omega
  clear hpB hpB1 hz1
  have hHB1 := hid hB1
  clear hW1 hW2 hA0 hB1
  go_loopw [12, 13, 15] (fun q t i wr => ∃ (k : Nat) (cs : List CallD) (px py n : Int), k ≤ os.length ∧ i = .int .i64 k ∧ t = .int .i64 n ∧ cs.length = k ∧ Acc W1 (w.heap.size + 1) 42 4 encCall wr q cs ∧ (∀ b, q.ownBlock = some b → b ≠ pB) ∧ Place wr pB px py ∧ pointB px py = true ∧ 0 ≤ n ∧ n ≤ 4320 ∧
      callsF a ws os bx bY t0 = restC a ws (os.drop k) px py n cs ∧ Below w.heap.size w wr) (fun _ _ i _ => os.length - (intOf i).toNat)
  case atStart => exact ⟨0, [], bx, bY, t0, Nat.zero_le _, rfl, rfl, rfl, hA1.out, fun b hb => by simp [Value.ownBlock] at hb; have := HPB.out; omega, hP0, hp, ht, ht2, by rw [List.drop_zero]; exact R0.out.symm, hB2⟩
  case round =>
    clear hA1 hP0 hB12 hB2
    obtain ⟨k, cs, px, py, n, hk, rfl, rfl, hcs, hA, hqb, hP, hpp, hn0, hn1, hR, hB⟩ := hrel
    have HA := hid hA; clear hA
    have HR := hid hR; clear hR
    have HQ := hid hqb; clear hqb
    have HP := hid hP
    have hzr := hB.size
    have hzA := HA.out.size
    have hcsL := hid hcs; clear hcs
    by_cases hlt : k < os.length
    · have hlI : (k : Int) < os.length := by omega
      obtain ⟨rfl, hbb, -, hcc, hmc⟩ := had (by omega)
      obtain ⟨j, hj, hjl⟩ := HI.out k hlt
      obtain ⟨rfl, hbv, -, hcv, hmcv⟩ := hav (by omega)
      obtain ⟨hpt, l0, l1, m0, m1, f0, f1, u0, u1⟩ := HW.out j hjl
      have g0 := HX.out k hlt 0 (by omega)
      simp only [encI, List.getD_cons_zero, Nat.add_zero, Nat.mul_one, hj] at g0
      have x1 := HXV.out j hjl 1 (by omega)
      have x2 := HXV.out j hjl 2 (by omega)
      simp only [encWork, List.getD_cons_zero, List.getD_cons_succ] at x1 x2
      have HJ := hid hj; clear hj
      have hjI : (j : Int) < ws.length := by omega
      have HST := hid (fun h => restC_step (sp := a) (ws := ws) (px := px) (py := py) (t := n) (cs := cs) hlt HJ.out hjl h)
      have HSP := hid (fun h => restC_stop (sp := a) (ws := ws) (px := px) (py := py) (t := n) (cs := cs) hlt HJ.out hjl h)
      have cc := fun (wq : World) (hbk : bk < wq.heap.size) (c1 : wq.cell? ⟨bk, off + 1, none⟩ = some (.int .i64 a)) (h : SlA wq 0 7 encWork (.slice (some ⟨bv, ov, none⟩) ws.length cv) ws) => c_l25Call bk off a px py n _ ws j wq hbk c1 h1 h2 h hw hjl hpp hn0 hn1
      obtain ⟨C, hC⟩ : ∃ C, C = mkC a px py n j ws[j] := ⟨_, rfl⟩
      rw [← hC] at HST HSP cc
      have hCe : C.fEnd ≤ ws[j].fUntil → 0 ≤ C.fEnd ∧ C.fEnd ≤ 4320 := fun hh => by
        have htr := travelT_bd h1 h2 hpp hpt
        have : 0 ≤ C.fEnd := by rw [hC]; simp only [mkC]; omega
        omega
      have HCE := hid hCe; clear hCe
      have HCQ := hid (show (⟨j, C.fArrive, C.fBegin, C.fEnd⟩ : CallD) = C by rw [hC]; rfl)
      clear hC
      have r0 : ∀ w', Since wr w' → w'.cell? ⟨b, oo + k, none⟩ = some (.int .i64 j) := fun w' hh => below_cell hh.out (by omega) (below_cell hB hbb g0)
      have r1 : ∀ w', Since wr w' → w'.cell? ⟨pB, 0, none⟩ = some (.int .i64 px) := fun w' hh => below_cell hh.out hP.1 hP.2.1
      have r2 : ∀ w', Since wr w' → w'.cell? ⟨pB, 1, none⟩ = some (.int .i64 py) := fun w' hh => below_cell hh.out hP.1 hP.2.2.1
      have d1 := below_cell hB hbk c1
      have hbkr : bk < wr.heap.size := by omega
      have hsw : SlA wr 0 7 encWork (.slice (some ⟨bv, ov, none⟩) ws.length cv) ws := h.at hB
      clear hP
      go_wp2
      cases hq : decide (C.fEnd ≤ ws[j].fUntil)
      · have HD := hid (HSP.out (by simpa using hq))
        rw [hq] at cc
        clear hq
        go_region_held3 (fun w' => Since wr w') ((refine since_of ?_; (repeat' (first | (with_reducible exact Below.refl _ _) | (with_reducible refine Below.alloc ?_ ?_ _) | (with_reducible refine Below.drew ?_) | (with_reducible refine below_drewN ?_ _) | (with_reducible refine Below.setCell ?_ ?_ _) | (with_reducible refine below_via ‹_› ?_ ?_) | (with_reducible refine below_grow ?_ ?_ _ _) | omega | (simp; done) | (simp; omega))))) (first | (go_at_call 64; refine (cc _ (by first | omega | (simp; done) | (simp; omega)) (below_cell (w := wr) (by (repeat' (first | (with_reducible exact Below.refl _ _) | (with_reducible refine Below.alloc ?_ ?_ _) | (with_reducible refine Below.drew ?_) | (with_reducible refine below_drewN ?_ _) | (with_reducible refine Below.setCell ?_ ?_ _) | (with_reducible refine below_via ‹_› ?_ ?_) | (with_reducible refine below_grow ?_ ?_ _ _) | omega | (simp; done) | (simp; omega)))) hbkr d1) (by apply SlA.at hsw; (repeat' (first | (with_reducible exact Below.refl _ _) | (with_reducible refine Below.alloc ?_ ?_ _) | (with_reducible refine Below.drew ?_) | (with_reducible refine below_drewN ?_ _) | (with_reducible refine Below.setCell ?_ ?_ _) | (with_reducible refine below_via ‹_› ?_ ?_) | (with_reducible refine below_grow ?_ ?_ _ _) | omega | (simp; done) | (simp; omega))))).mono ?_; rintro e w2 ⟨rfl, hb2⟩; obtain ⟨hc2, hf2⟩ := bcell hb2; have hz2 := hb2.size; (try simp at hz2); (try have hy : w.heap.size < w2.heap.size := by omega); (try have hy : w.heap.size ≤ w2.heap.size := by omega); (try have hy : w.heap.size + 1 < w2.heap.size := by omega); (try have hy : w.heap.size + 1 ≤ w2.heap.size := by omega); (try have hy : w.heap.size + 2 < w2.heap.size := by omega); (try have hy : w.heap.size + 2 ≤ w2.heap.size := by omega); (try have hy : w1.heap.size < w2.heap.size := by omega); (try have hy : w1.heap.size ≤ w2.heap.size := by omega)))
        all_goals
          clear r0 r1 r2
          go_wp2
          go_ret2
          exact ⟨_, by rw [HR.out, HD.out]; rfl, by (repeat' (first | (with_reducible exact Below.refl _ _) | (with_reducible refine Below.alloc ?_ ?_ _) | (with_reducible refine Below.drew ?_) | (with_reducible refine below_drewN ?_ _) | (with_reducible refine Below.setCell ?_ ?_ _) | (with_reducible refine below_via ‹_› ?_ ?_) | (with_reducible refine below_grow ?_ ?_ _ _) | omega | (simp; done) | (simp; omega))), .inl ⟨none, 0, rfl, by rw [HR.out, HD.out]; rfl, Nat.zero_le _⟩, fun b hb => by simp [Value.ownBlock] at hb⟩
      · have HD := hid (HST.out (by simpa using hq))
        obtain ⟨e0, e1⟩ := HCE.out (by simpa using hq)
        rw [hq] at cc
        clear hq
        go_region_held3 (fun w' => Since wr w') ((refine since_of ?_; (repeat' (first | (with_reducible exact Below.refl _ _) | (with_reducible refine Below.alloc ?_ ?_ _) | (with_reducible refine Below.drew ?_) | (with_reducible refine below_drewN ?_ _) | (with_reducible refine Below.setCell ?_ ?_ _) | (with_reducible refine below_via ‹_› ?_ ?_) | (with_reducible refine below_grow ?_ ?_ _ _) | omega | (simp; done) | (simp; omega))))) (first | (go_at_call 64; refine (cc _ (by first | omega | (simp; done) | (simp; omega)) (below_cell (w := wr) (by (repeat' (first | (with_reducible exact Below.refl _ _) | (with_reducible refine Below.alloc ?_ ?_ _) | (with_reducible refine Below.drew ?_) | (with_reducible refine below_drewN ?_ _) | (with_reducible refine Below.setCell ?_ ?_ _) | (with_reducible refine below_via ‹_› ?_ ?_) | (with_reducible refine below_grow ?_ ?_ _ _) | omega | (simp; done) | (simp; omega)))) hbkr d1) (by apply SlA.at hsw; (repeat' (first | (with_reducible exact Below.refl _ _) | (with_reducible refine Below.alloc ?_ ?_ _) | (with_reducible refine Below.drew ?_) | (with_reducible refine below_drewN ?_ _) | (with_reducible refine Below.setCell ?_ ?_ _) | (with_reducible refine below_via ‹_› ?_ ?_) | (with_reducible refine below_grow ?_ ?_ _ _) | omega | (simp; done) | (simp; omega))))).mono ?_; rintro e w2 ⟨rfl, hb2⟩; obtain ⟨hc2, hf2⟩ := bcell hb2; have hz2 := hb2.size; (try simp at hz2); (try have hy : w.heap.size < w2.heap.size := by omega); (try have hy : w.heap.size ≤ w2.heap.size := by omega); (try have hy : w.heap.size + 1 < w2.heap.size := by omega); (try have hy : w.heap.size + 1 ≤ w2.heap.size := by omega); (try have hy : w.heap.size + 2 < w2.heap.size := by omega); (try have hy : w.heap.size + 2 ≤ w2.heap.size := by omega); (try have hy : w1.heap.size < w2.heap.size := by omega); (try have hy : w1.heap.size ≤ w2.heap.size := by omega)))
        have h13 : Below wr.heap.size wr (w2.alloc (Obj.cells #[.int .i64 j, .int .i64 C.fArrive, .int .i64 C.fBegin, .int .i64 C.fEnd] 42)) := by (repeat' (first | (with_reducible exact Below.refl _ _) | (with_reducible refine Below.alloc ?_ ?_ _) | (with_reducible refine Below.drew ?_) | (with_reducible refine below_drewN ?_ _) | (with_reducible refine Below.setCell ?_ ?_ _) | (with_reducible refine below_via ‹_› ?_ ?_) | (with_reducible refine below_grow ?_ ?_ _ _) | omega | (simp; done) | (simp; omega)))
        have hC4 := cells4_new w2 j C.fArrive C.fBegin C.fEnd 42
        obtain ⟨w3, hW3⟩ : ∃ z, z = w2.alloc (Obj.cells #[.int .i64 j, .int .i64 C.fArrive, .int .i64 C.fBegin, .int .i64 C.fEnd] 42) := ⟨_, rfl⟩
        rw [← hW3] at h13 hC4 ⊢
        obtain ⟨g, hgd⟩ : ∃ g, g = w2.heap.size := ⟨_, rfl⟩
        rw [← hgd] at hC4 ⊢
        have hg : wr.heap.size ≤ g := by omega
        rotate_left
        have h13 : Below wr.heap.size wr ((((w2.setCell ⟨wr.heap.size, 0, none⟩ (.int .i64 j)).setCell ⟨wr.heap.size, 1, none⟩ (.int .i64 C.fArrive)).setCell ⟨wr.heap.size, 2, none⟩ (.int .i64 C.fBegin)).setCell ⟨wr.heap.size, 3, none⟩ (.int .i64 C.fEnd)) := by (repeat' (first | (with_reducible exact Below.refl _ _) | (with_reducible refine Below.alloc ?_ ?_ _) | (with_reducible refine Below.drew ?_) | (with_reducible refine below_drewN ?_ _) | (with_reducible refine Below.setCell ?_ ?_ _) | (with_reducible refine below_via ‹_› ?_ ?_) | (with_reducible refine below_grow ?_ ?_ _ _) | omega | (simp; done) | (simp; omega)))
        have hC4 := cells4_set (a := j) (b := C.fArrive) (c := C.fBegin) (d := C.fEnd) ((cells4_new wr 0 0 0 0 42).below (w' := w2) (by (repeat' (first | (with_reducible exact Below.refl _ _) | (with_reducible refine Below.alloc ?_ ?_ _) | (with_reducible refine Below.drew ?_) | (with_reducible refine below_drewN ?_ _) | (with_reducible refine Below.setCell ?_ ?_ _) | (with_reducible refine below_via ‹_› ?_ ?_) | (with_reducible refine below_grow ?_ ?_ _ _) | omega | (simp; done) | (simp; omega)))))
        obtain ⟨w3, hW3⟩ : ∃ z, z = ((((w2.setCell ⟨wr.heap.size, 0, none⟩ (.int .i64 j)).setCell ⟨wr.heap.size, 1, none⟩ (.int .i64 C.fArrive)).setCell ⟨wr.heap.size, 2, none⟩ (.int .i64 C.fBegin)).setCell ⟨wr.heap.size, 3, none⟩ (.int .i64 C.fEnd)) := ⟨_, rfl⟩
        rw [← hW3] at h13 hC4 ⊢
        obtain ⟨g, hgd⟩ : ∃ g, g = wr.heap.size := ⟨_, rfl⟩
        rw [← hgd] at hC4 ⊢
        have hg : wr.heap.size ≤ g := by omega
        all_goals
          clear hW3 hgd hb2 hc2 hf2 hz2 r0 r1 r2 cc
          have hz3 := h13.size
          have hA3 := HA.out.below h13
          have HA3 := hid hA3; clear hA3
          have hP3 := HP.out.below h13
          have y0 := below_cell h13 (by omega) (below_cell hB hbb g0)
          have y1 := below_cell h13 (by omega) (below_cell hB hbv x1)
          have y2 := below_cell h13 (by omega) (below_cell hB hbv x2)
          have HP3 := hid hP3
          obtain ⟨p0, p1, p2, p3⟩ := hP3
          obtain ⟨q0, q1, q2, q3, q4, q5⟩ := hC4
          have hB3 : Below w.heap.size w w3 := hB.trans (h13.mono (by omega))
          have hlcs : cs.length ≤ 1048576 := by have := hcsL.out; omega
          have HGE : ∀ b, u12.ownBlock = some b → b < wr.heap.size := fun b hb => (HA.out.own.lt b hb).2
          have hpr : pB < wr.heap.size := HP.out.1
          go_wp2_with (at_builtin; refine wpList_pushG (v := u12) rfl (.tmp 41) (.tmp 43) 35 rfl i0 _ 32 Try.underlying35 hi iz0 iz1 iz2 rfl (by decide) (fun _ => rfl) (⟨j, C.fArrive, C.fBegin, C.fEnd⟩ : CallD) rfl HA3.out (by (repeat' (first | (with_reducible exact Below.refl _ _) | (with_reducible refine Below.alloc ?_ ?_ _) | (with_reducible refine Below.drew ?_) | (with_reducible refine below_drewN ?_ _) | (with_reducible refine Below.setCell ?_ ?_ _) | (with_reducible refine below_via ‹_› ?_ ?_) | (with_reducible refine below_grow ?_ ?_ _ _) | omega | (simp; done) | (simp; omega)))) 42 1 rfl (one_encCall _) (by unfold maxLen; omega) (by omega) ?_; intro v4 w4 hA4 hgr4 hob4; have hB4 : Below w.heap.size w w4 := hHB1.out.trans (hA4.keep.mono (by omega)); have hA4' := hid hA4; clear hA4; have hP4 : Place w4 pB px py := (HP3.out.below (by (repeat' (first | (with_reducible exact Below.refl _ _) | (with_reducible refine Below.alloc ?_ ?_ _) | (with_reducible refine Below.drew ?_) | (with_reducible refine below_drewN ?_ _) | (with_reducible refine Below.setCell ?_ ?_ _) | (with_reducible refine below_via ‹_› ?_ ?_) | (with_reducible refine below_grow ?_ ?_ _ _) | omega | (simp; done) | (simp; omega))))).grown hgr4 (fun e => HQ.out pB e rfl); have hE4 : w4.cell? ⟨g, 3, none⟩ = some (.int .i64 C.fEnd) := (World.cell?_of_block (a := ⟨g, 3, none⟩) (hgr4.block g (by simp; omega) (fun e => by have := HGE g e.symm; omega))).trans (below_cell (w := w3) (by (repeat' (first | (with_reducible exact Below.refl _ _) | (with_reducible refine Below.alloc ?_ ?_ _) | (with_reducible refine Below.drew ?_) | (with_reducible refine below_drewN ?_ _) | (with_reducible refine Below.setCell ?_ ?_ _) | (with_reducible refine below_via ‹_› ?_ ?_) | (with_reducible refine below_grow ?_ ?_ _ _) | omega | (simp; done) | (simp; omega)))) q0 q4); have hq4 := hid (own_ne hob4 HQ.out (by omega)); have hP4' := hid hP4; obtain ⟨s0, s1, s2, s3⟩ := hP4; have z0 := below_cell hB4 hbb g0; have z1 := below_cell hB4 hbv x1; have z2 := below_cell hB4 hbv x2; clear hgr4 hob4 HGE)
          go_roundw
          case rel =>
            have hA5 := (hA4'.out.setOther ⟨pB, 0, none⟩ (.int .i64 ws[j].fAtX) hq4.out hpB2).setOther ⟨pB, 1, none⟩ (.int .i64 ws[j].fAtY) hq4.out hpB2
            rw [HCQ.out] at hA5
            exact ⟨k + 1, cs ++ [C], ws[j].fAtX, ws[j].fAtY, C.fEnd, by omega, by go_num, rfl, by rw [List.length_append, hcsL.out]; rfl, hA5, hq4.out, hP4'.out.set, hpt, e0, e1, HR.out.trans HD.out, by (repeat' (first | (with_reducible exact Below.refl _ _) | (with_reducible refine Below.alloc ?_ ?_ _) | (with_reducible refine Below.drew ?_) | (with_reducible refine below_drewN ?_ _) | (with_reducible refine Below.setCell ?_ ?_ _) | (with_reducible refine below_via ‹_› ?_ ?_) | (with_reducible refine below_grow ?_ ?_ _ _) | omega | (simp; done) | (simp; omega)))⟩
          case measure => simp [intOf]; omega
    · have hd : os.drop k = [] := List.drop_eq_nil_of_le (by omega)
      have HE := hid (show callsF a ws os bx bY t0 = some cs by rw [HR.out, hd, restC_nil])
      go_wp2
      go_ret2
      have hd := HA.out.done (fun _ => rfl) hHB1.out (by omega)
      exact ⟨_, by rw [HE.out]; rfl, hd.1, by rw [HE.out]; exact hd.2⟩
theorem grown_cell {w0 w w' : World} {r : Option Nat} {b o : Nat} {v : Value} (hb : Below w0.heap.size w0 w) (hg : w.grownBy w' r) (h : w0.cell? ⟨b, o, none⟩ = some v) (hne : r ≠ some b) : w'.cell? ⟨b, o, none⟩ = some v :=
  (World.cell?_of_block (a := ⟨b, o, none⟩) (hg.block b (Nat.lt_of_lt_of_le (World.block_lt_of_cell? w0 _ h) hb.size) (fun e => hne e.symm))).trans (below_cell hb (World.block_lt_of_cell? w0 _ h) h)
/-- a voyage's calls and its code -/
def CallsCode (w w' : World) (cs : List CallD) (code : Int) (e : Ending) : Prop :=
  ∃ u, e = .returned (.tuple #[u, .int .i64 code]) ∧ Below w.heap.size w w' ∧ SlO w' w.heap.size 4 encCall u cs
theorem callsCode_none {w w' : World} (h : Below w.heap.size w w') {code : Int} {cs : List CallD} (hc : cs = []) : CallsCode w w' cs code (.returned (.tuple #[.slice none 0 0, .int .i64 code])) :=
  ⟨_, rfl, h, .inl ⟨none, 0, rfl, hc, Nat.zero_le _⟩, fun b hb => by simp [Value.ownBlock] at hb⟩
set_option maxHeartbeats 4000000 in
theorem c_voyage (s : ByteArray) (a b c bx bY t0 : Int) (v u : Value) (ws : List WorkD) (os : List Int) (w : World) (h1 : 1 ≤ a) (h2 : a ≤ 2000)
    (h : SlA w 0 7 encWork v ws) (hw : worksB ws = true) (hu : SlA w 0 1 encI u os) (ho : ordB ws.length os = true) (hl : os.length ≤ 1048576) (hp : pointB bx bY = true) (ht : 0 ≤ t0) (ht2 : t0 ≤ 4320) :
    Calls Try.prog 66 #[.agg #[.string s, .int .i64 a, .int .i64 b, .int .i64 c], .agg #[.int .i64 bx, .int .i64 bY], v, u, .int .i64 t0] w fun e w' => CallsCode w w' (voyL a b bx bY ws os t0) (voyC a b bx bY ws os t0) e := by
  obtain ⟨i0, hi, iz0, iz1, iz2⟩ := info_parts info_Call
  have H := h
  have HU := hu
  obtain ⟨ad, cap, bo, oo, rfl, hm, had, hx⟩ := hu.uni
  obtain ⟨av, cv, bv, ov, rfl, hmv, hav, hxv⟩ := h.uni
  have HI := hid (fun i (hi : i < os.length) => ordB_nat ho hi)
  have HW := hid (fun (j : Nat) (hj : j < ws.length) => workD_true ((works_all hw).2 j hj))
  have HX := hid hx
  have HXV := hid hxv
  have R0 := hid (restC_start a ws os bx bY t0)
  clear hx hxv h hu
  cases hld : decide (b < ldF ws os os.length)
  case' true => have HV := hid (show voyL a b bx bY ws os t0 = [] ∧ voyC a b bx bY ws os t0 = 5 by have := of_decide_eq_true hld; simp [voyL, voyC, this])
  case' false => have HV := hid (show voyL a b bx bY ws os t0 = (callsF a ws os bx bY t0).getD [] ∧ voyC a b bx bY ws os t0 = (if (callsF a ws os bx bY t0).isSome then 0 else 6) by have := of_decide_eq_false hld; simp only [voyL, voyC, gt_iff_lt, if_neg this]; cases callsF a ws os bx bY t0 <;> simp)
  all_goals
    go_enter Try.func66, Try.ntmps66
    go_wp2
    obtain ⟨wa, hwa⟩ : ∃ z, z = (w.alloc (Obj.cells #[.string s, .int .i64 a, .int .i64 b, .int .i64 c] 25)).alloc (Obj.cells #[.int .i64 bx, .int .i64 bY] 33) := ⟨_, rfl⟩
    rw [← hwa]
    have hBa : Below w.heap.size w wa := by rw [hwa]; (repeat' (first | (with_reducible exact Below.refl _ _) | (with_reducible refine Below.alloc ?_ ?_ _) | (with_reducible refine Below.drew ?_) | (with_reducible refine below_drewN ?_ _) | (with_reducible refine Below.setCell ?_ ?_ _) | (with_reducible refine below_via ‹_› ?_ ?_) | (with_reducible refine below_grow ?_ ?_ _ _) | omega | (simp; done) | (simp; omega)))
    have s0 : wa.cell? ⟨w.heap.size, 0, none⟩ = some (.string s) := by rw [hwa]; simp [go_sem]
    have s1 : wa.cell? ⟨w.heap.size, 1, none⟩ = some (.int .i64 a) := by rw [hwa]; simp [go_sem]
    have s2 : wa.cell? ⟨w.heap.size, 2, none⟩ = some (.int .i64 b) := by rw [hwa]; simp [go_sem]
    have s3 : wa.cell? ⟨w.heap.size, 3, none⟩ = some (.int .i64 c) := by rw [hwa]; simp [go_sem]
    have p0 : wa.cell? ⟨w.heap.size + 1, 0, none⟩ = some (.int .i64 bx) := by rw [hwa]; simp [go_sem]
    have p1 : wa.cell? ⟨w.heap.size + 1, 1, none⟩ = some (.int .i64 bY) := by rw [hwa]; simp [go_sem]
    have hza : wa.heap.size = w.heap.size + 2 := by rw [hwa]; simp
    have HZA := hid hza
    have hza1 : w.heap.size + 2 ≤ wa.heap.size := by omega
    clear hwa hza
    go_quiet ((first | (go_at_call 69; first | exact quiet_bool (c_loadOf _ _ _ _ _ (by first | (with_reducible assumption) | (with_reducible apply SlO.at; (with_reducible assumption); (repeat' (first | (with_reducible exact Below.refl _ _) | (with_reducible refine Below.alloc ?_ ?_ _) | (with_reducible refine Below.drew ?_) | (with_reducible refine below_drewN ?_ _) | (with_reducible refine Below.setCell ?_ ?_ _) | (with_reducible refine below_via ‹_› ?_ ?_) | (with_reducible refine below_grow ?_ ?_ _ _) | omega | (simp; done) | (simp; omega))); done) | (with_reducible apply SlA.at; (with_reducible assumption); (repeat' (first | (with_reducible exact Below.refl _ _) | (with_reducible refine Below.alloc ?_ ?_ _) | (with_reducible refine Below.drew ?_) | (with_reducible refine below_drewN ?_ _) | (with_reducible refine Below.setCell ?_ ?_ _) | (with_reducible refine below_via ‹_› ?_ ?_) | (with_reducible refine below_grow ?_ ?_ _ _) | omega | (simp; done) | (simp; omega))); done)) (by first | (with_reducible assumption) | (with_reducible apply SlO.at; (with_reducible assumption); (repeat' (first | (with_reducible exact Below.refl _ _) | (with_reducible refine Below.alloc ?_ ?_ _) | (with_reducible refine Below.drew ?_) | (with_reducible refine below_drewN ?_ _) | (with_reducible refine Below.setCell ?_ ?_ _) | (with_reducible refine below_via ‹_› ?_ ?_) | (with_reducible refine below_grow ?_ ?_ _ _) | omega | (simp; done) | (simp; omega))); done) | (with_reducible apply SlA.at; (with_reducible assumption); (repeat' (first | (with_reducible exact Below.refl _ _) | (with_reducible refine Below.alloc ?_ ?_ _) | (with_reducible refine Below.drew ?_) | (with_reducible refine below_drewN ?_ _) | (with_reducible refine Below.setCell ?_ ?_ _) | (with_reducible refine below_via ‹_› ?_ ?_) | (with_reducible refine below_grow ?_ ?_ _ _) | omega | (simp; done) | (simp; omega))); done)) (by assumption) (by assumption) (by omega)) (by assumption) | exact quiet_boolN (c_loadOf _ _ _ _ _ (by first | (with_reducible assumption) | (with_reducible apply SlO.at; (with_reducible assumption); (repeat' (first | (with_reducible exact Below.refl _ _) | (with_reducible refine Below.alloc ?_ ?_ _) | (with_reducible refine Below.drew ?_) | (with_reducible refine below_drewN ?_ _) | (with_reducible refine Below.setCell ?_ ?_ _) | (with_reducible refine below_via ‹_› ?_ ?_) | (with_reducible refine below_grow ?_ ?_ _ _) | omega | (simp; done) | (simp; omega))); done) | (with_reducible apply SlA.at; (with_reducible assumption); (repeat' (first | (with_reducible exact Below.refl _ _) | (with_reducible refine Below.alloc ?_ ?_ _) | (with_reducible refine Below.drew ?_) | (with_reducible refine below_drewN ?_ _) | (with_reducible refine Below.setCell ?_ ?_ _) | (with_reducible refine below_via ‹_› ?_ ?_) | (with_reducible refine below_grow ?_ ?_ _ _) | omega | (simp; done) | (simp; omega))); done)) (by first | (with_reducible assumption) | (with_reducible apply SlO.at; (with_reducible assumption); (repeat' (first | (with_reducible exact Below.refl _ _) | (with_reducible refine Below.alloc ?_ ?_ _) | (with_reducible refine Below.drew ?_) | (with_reducible refine below_drewN ?_ _) | (with_reducible refine Below.setCell ?_ ?_ _) | (with_reducible refine below_via ‹_› ?_ ?_) | (with_reducible refine below_grow ?_ ?_ _ _) | omega | (simp; done) | (simp; omega))); done) | (with_reducible apply SlA.at; (with_reducible assumption); (repeat' (first | (with_reducible exact Below.refl _ _) | (with_reducible refine Below.alloc ?_ ?_ _) | (with_reducible refine Below.drew ?_) | (with_reducible refine below_drewN ?_ _) | (with_reducible refine Below.setCell ?_ ?_ _) | (with_reducible refine below_via ‹_› ?_ ?_) | (with_reducible refine below_grow ?_ ?_ _ _) | omega | (simp; done) | (simp; omega))); done)) (by assumption) (by assumption) (by omega)) (by assumption) | exact quiet_val (c_loadOf _ _ _ _ _ (by first | (with_reducible assumption) | (with_reducible apply SlO.at; (with_reducible assumption); (repeat' (first | (with_reducible exact Below.refl _ _) | (with_reducible refine Below.alloc ?_ ?_ _) | (with_reducible refine Below.drew ?_) | (with_reducible refine below_drewN ?_ _) | (with_reducible refine Below.setCell ?_ ?_ _) | (with_reducible refine below_via ‹_› ?_ ?_) | (with_reducible refine below_grow ?_ ?_ _ _) | omega | (simp; done) | (simp; omega))); done) | (with_reducible apply SlA.at; (with_reducible assumption); (repeat' (first | (with_reducible exact Below.refl _ _) | (with_reducible refine Below.alloc ?_ ?_ _) | (with_reducible refine Below.drew ?_) | (with_reducible refine below_drewN ?_ _) | (with_reducible refine Below.setCell ?_ ?_ _) | (with_reducible refine below_via ‹_› ?_ ?_) | (with_reducible refine below_grow ?_ ?_ _ _) | omega | (simp; done) | (simp; omega))); done)) (by first | (with_reducible assumption) | (with_reducible apply SlO.at; (with_reducible assumption); (repeat' (first | (with_reducible exact Below.refl _ _) | (with_reducible refine Below.alloc ?_ ?_ _) | (with_reducible refine Below.drew ?_) | (with_reducible refine below_drewN ?_ _) | (with_reducible refine Below.setCell ?_ ?_ _) | (with_reducible refine below_via ‹_› ?_ ?_) | (with_reducible refine below_grow ?_ ?_ _ _) | omega | (simp; done) | (simp; omega))); done) | (with_reducible apply SlA.at; (with_reducible assumption); (repeat' (first | (with_reducible exact Below.refl _ _) | (with_reducible refine Below.alloc ?_ ?_ _) | (with_reducible refine Below.drew ?_) | (with_reducible refine below_drewN ?_ _) | (with_reducible refine Below.setCell ?_ ?_ _) | (with_reducible refine below_via ‹_› ?_ ?_) | (with_reducible refine below_grow ?_ ?_ _ _) | omega | (simp; done) | (simp; omega))); done)) (by assumption) (by assumption) (by omega)) | exact quiet_valN (c_loadOf _ _ _ _ _ (by first | (with_reducible assumption) | (with_reducible apply SlO.at; (with_reducible assumption); (repeat' (first | (with_reducible exact Below.refl _ _) | (with_reducible refine Below.alloc ?_ ?_ _) | (with_reducible refine Below.drew ?_) | (with_reducible refine below_drewN ?_ _) | (with_reducible refine Below.setCell ?_ ?_ _) | (with_reducible refine below_via ‹_› ?_ ?_) | (with_reducible refine below_grow ?_ ?_ _ _) | omega | (simp; done) | (simp; omega))); done) | (with_reducible apply SlA.at; (with_reducible assumption); (repeat' (first | (with_reducible exact Below.refl _ _) | (with_reducible refine Below.alloc ?_ ?_ _) | (with_reducible refine Below.drew ?_) | (with_reducible refine below_drewN ?_ _) | (with_reducible refine Below.setCell ?_ ?_ _) | (with_reducible refine below_via ‹_› ?_ ?_) | (with_reducible refine below_grow ?_ ?_ _ _) | omega | (simp; done) | (simp; omega))); done)) (by first | (with_reducible assumption) | (with_reducible apply SlO.at; (with_reducible assumption); (repeat' (first | (with_reducible exact Below.refl _ _) | (with_reducible refine Below.alloc ?_ ?_ _) | (with_reducible refine Below.drew ?_) | (with_reducible refine below_drewN ?_ _) | (with_reducible refine Below.setCell ?_ ?_ _) | (with_reducible refine below_via ‹_› ?_ ?_) | (with_reducible refine below_grow ?_ ?_ _ _) | omega | (simp; done) | (simp; omega))); done) | (with_reducible apply SlA.at; (with_reducible assumption); (repeat' (first | (with_reducible exact Below.refl _ _) | (with_reducible refine Below.alloc ?_ ?_ _) | (with_reducible refine Below.drew ?_) | (with_reducible refine below_drewN ?_ _) | (with_reducible refine Below.setCell ?_ ?_ _) | (with_reducible refine below_via ‹_› ?_ ?_) | (with_reducible refine below_grow ?_ ?_ _ _) | omega | (simp; done) | (simp; omega))); done)) (by assumption) (by assumption) (by omega)))))
    obtain ⟨wb, hwb⟩ : ∃ z, z = wa.drewN nq := ⟨_, rfl⟩
    rw [← hwb]
    have hBb : Below w.heap.size w wb := by rw [hwb]; (repeat' (first | (with_reducible exact Below.refl _ _) | (with_reducible refine Below.alloc ?_ ?_ _) | (with_reducible refine Below.drew ?_) | (with_reducible refine below_drewN ?_ _) | (with_reducible refine Below.setCell ?_ ?_ _) | (with_reducible refine below_via ‹_› ?_ ?_) | (with_reducible refine below_grow ?_ ?_ _ _) | omega | (simp; done) | (simp; omega)))
    have s0 : wb.cell? ⟨w.heap.size, 0, none⟩ = some (.string s) := by rw [hwb]; exact s0
    have s1 : wb.cell? ⟨w.heap.size, 1, none⟩ = some (.int .i64 a) := by rw [hwb]; exact s1
    have s2 : wb.cell? ⟨w.heap.size, 2, none⟩ = some (.int .i64 b) := by rw [hwb]; exact s2
    have s3 : wb.cell? ⟨w.heap.size, 3, none⟩ = some (.int .i64 c) := by rw [hwb]; exact s3
    have p0 : wb.cell? ⟨w.heap.size + 1, 0, none⟩ = some (.int .i64 bx) := by rw [hwb]; exact p0
    have p1 : wb.cell? ⟨w.heap.size + 1, 1, none⟩ = some (.int .i64 bY) := by rw [hwb]; exact p1
    have HZB := hid (show wb.heap.size = w.heap.size + 2 by rw [hwb]; exact HZA.out)
    have hza1 : w.heap.size + 2 ≤ wb.heap.size := by have := HZB.out; omega
    have hlt0 : w.heap.size < wb.heap.size := by omega
    have hlt1 : w.heap.size + 1 < wb.heap.size := by omega
    clear hwb HZA hBa
  rotate_left
  · go_wp2
    go_ret2
    rw [HV.out.2]
    exact callsCode_none (by (repeat' (first | (with_reducible exact Below.refl _ _) | (with_reducible refine Below.alloc ?_ ?_ _) | (with_reducible refine Below.drew ?_) | (with_reducible refine below_drewN ?_ _) | (with_reducible refine Below.setCell ?_ ?_ _) | (with_reducible refine below_via ‹_› ?_ ?_) | (with_reducible refine below_grow ?_ ?_ _ _) | omega | (simp; done) | (simp; omega)))) HV.out.1
  go_wp2
  obtain ⟨W1, hW1⟩ : ∃ z, z = wb.alloc (.cells #[] 42) := ⟨_, rfl⟩
  obtain ⟨W2, hW2⟩ : ∃ z, z = W1.alloc (Obj.cells #[.int .i64 bx, .int .i64 bY] 33) := ⟨_, rfl⟩
  rw [← hW1, ← hW2]
  have hB1 : Below w.heap.size w W1 := by rw [hW1]; (repeat' (first | (with_reducible exact Below.refl _ _) | (with_reducible refine Below.alloc ?_ ?_ _) | (with_reducible refine Below.drew ?_) | (with_reducible refine below_drewN ?_ _) | (with_reducible refine Below.setCell ?_ ?_ _) | (with_reducible refine below_via ‹_› ?_ ?_) | (with_reducible refine below_grow ?_ ?_ _ _) | omega | (simp; done) | (simp; omega)))
  have HZ1 := hid (show W1.heap.size = w.heap.size + 3 by rw [hW1]; simp [HZB.out])
  have hzz0 : w.heap.size + 3 ≤ W1.heap.size := by have := HZ1.out; omega
  have hA0 := hid (show Acc W1 wb.heap.size 42 4 encCall W1 (.slice (some ⟨wb.heap.size, 0, none⟩) 0 0) ([] : List CallD) from
    Acc.lit (α := CallD) (W := W1) (w0 := wb) (e := 42) (by rw [hW1]; exact Below.refl _ _) 4 encCall)
  have hP0 : Place W2 W1.heap.size bx bY := by rw [hW2]; exact ⟨by simp, by simp [go_sem], by simp [go_sem], fun j => by simp [go_sem]⟩
  have hB12 : Below W1.heap.size W1 W2 := by rw [hW2]; (repeat' (first | (with_reducible exact Below.refl _ _) | (with_reducible refine Below.alloc ?_ ?_ _) | (with_reducible refine Below.drew ?_) | (with_reducible refine below_drewN ?_ _) | (with_reducible refine Below.setCell ?_ ?_ _) | (with_reducible refine below_via ‹_› ?_ ?_) | (with_reducible refine below_grow ?_ ?_ _ _) | omega | (simp; done) | (simp; omega)))
  have hA1 := hid (hA0.out.below hB12)
  have hB2 : Below w.heap.size w W2 := by rw [hW2]; (repeat' (first | (with_reducible exact Below.refl _ _) | (with_reducible refine Below.alloc ?_ ?_ _) | (with_reducible refine Below.drew ?_) | (with_reducible refine below_drewN ?_ _) | (with_reducible refine Below.setCell ?_ ?_ _) | (with_reducible refine below_via ‹_› ?_ ?_) | (with_reducible refine below_grow ?_ ?_ _ _) | omega | (simp; done) | (simp; omega)))
  have hBb2 : Below wb.heap.size wb W2 := by rw [hW2, hW1]; (repeat' (first | (with_reducible exact Below.refl _ _) | (with_reducible refine Below.alloc ?_ ?_ _) | (with_reducible refine Below.drew ?_) | (with_reducible refine below_drewN ?_ _) | (with_reducible refine Below.setCell ?_ ?_ _) | (with_reducible refine below_via ‹_› ?_ ?_) | (with_reducible refine below_grow ?_ ?_ _ _) | omega | (simp; done) | (simp; omega)))
  obtain ⟨pB, hpB⟩ : ∃ p, p = wb.heap.size + 1 := ⟨_, rfl⟩
  have hzw := HZB.out
  rw [show W1.heap.size = pB by have := HZ1.out; omega] at hP0
  rw [← hpB]
  have HPB := hid (show pB = W1.heap.size by have := HZ1.out; omega)
  have hpB2 : W1.heap.size ≤ pB := by have := HZ1.out; omega
  have hpB3 : w.heap.size + 3 ≤ pB := by omega
  have hpB4 : wb.heap.size < pB := by omega
  have hzz1 : W1.heap.size ≤ w.heap.size + 3 := by have := HZ1.out; omega
  have hHB1 := hid hB1
  have S0 := hid (And.intro (below_cell hBb2 hlt0 s0) (And.intro (below_cell hBb2 hlt0 s1) (And.intro (below_cell hBb2 hlt0 s2) (below_cell hBb2 hlt0 s3))))
  have hbw : wb.heap.size ≤ w.heap.size + 2 := by omega
  clear hpB hzw HZB hW1 hW2 hA0 hB1 hBb2 s0 s1 s2 s3 p0 p1
  have hB22 : Below W2.heap.size W2 W2 := Below.refl _ _
  have hz2 : w.heap.size + 4 ≤ W2.heap.size := by have := hP0.1; omega
  go_loopw [12, 4, 29] (fun q t i wr => ∃ (k : Nat) (cs : List CallD) (px py n : Int), k ≤ os.length ∧ i = .int .i64 k ∧ t = .int .i64 n ∧ cs.length = k ∧ Acc W1 wb.heap.size 42 4 encCall wr q cs ∧ (∀ b, q.ownBlock = some b → b ≠ pB) ∧ Place wr pB px py ∧ pointB px py = true ∧ 0 ≤ n ∧ n ≤ 4320 ∧
      callsF a ws os bx bY t0 = restC a ws (os.drop k) px py n cs ∧ Below w.heap.size w wr ∧ Hid (wr.cell? ⟨w.heap.size, 0, none⟩ = some (.string s) ∧ wr.cell? ⟨w.heap.size, 1, none⟩ = some (.int .i64 a) ∧ wr.cell? ⟨w.heap.size, 2, none⟩ = some (.int .i64 b) ∧ wr.cell? ⟨w.heap.size, 3, none⟩ = some (.int .i64 c))) (fun _ _ i _ => os.length - (intOf i).toNat)
  case atStart => exact ⟨0, [], bx, bY, t0, Nat.zero_le _, rfl, rfl, rfl, hA1.out, fun b hb => by simp [Value.ownBlock] at hb; omega, hP0, hp, ht, ht2, by rw [List.drop_zero]; exact R0.out.symm, hB2, S0⟩
  case round =>
    clear hA1 hP0 hB12 hB2 S0
    obtain ⟨k, cs, px, py, n, hk, rfl, rfl, hcs, hA, hqb, hP, hpp, hn0, hn1, hR, hB, hS0⟩ := hrel
    have HA := hid hA; clear hA
    have HR := hid hR; clear hR
    have HQ := hid hqb; clear hqb
    have HP := hid hP
    have hzr := hB.size
    have hzA := HA.out.size
    have hcsL := hid hcs; clear hcs
    by_cases hlt : k < os.length
    · have hlI : (k : Int) < os.length := by omega
      obtain ⟨rfl, hbb, -, hcc, hmc⟩ := had (by omega)
      obtain ⟨j, hj, hjl⟩ := HI.out k hlt
      obtain ⟨rfl, hbv, -, hcv, hmcv⟩ := hav (by omega)
      obtain ⟨hpt, l0, l1, m0, m1, f0, f1, u0, u1⟩ := HW.out j hjl
      have g0 := HX.out k hlt 0 (by omega)
      simp only [encI, List.getD_cons_zero, Nat.add_zero, Nat.mul_one, hj] at g0
      have x0 := HXV.out j hjl 0 (by omega)
      have x1 := HXV.out j hjl 1 (by omega)
      have x2 := HXV.out j hjl 2 (by omega)
      have x3 := HXV.out j hjl 3 (by omega)
      have x4 := HXV.out j hjl 4 (by omega)
      have x5 := HXV.out j hjl 5 (by omega)
      have x6 := HXV.out j hjl 6 (by omega)
      simp only [encWork, List.getD_cons_zero, List.getD_cons_succ, Nat.add_zero] at x0 x1 x2 x3 x4 x5 x6
      have HJ := hid hj; clear hj
      have hjI : (j : Int) < ws.length := by omega
      have HST := hid (fun h => restC_step (sp := a) (ws := ws) (px := px) (py := py) (t := n) (cs := cs) hlt HJ.out hjl h)
      have HSP := hid (fun h => restC_stop (sp := a) (ws := ws) (px := px) (py := py) (t := n) (cs := cs) hlt HJ.out hjl h)
      obtain ⟨T, hT⟩ : ∃ T, T = travelT a px py ws[j].fAtX ws[j].fAtY := ⟨_, rfl⟩
      have htr := travelT_bd h1 h2 hpp hpt
      have ct : ∀ wq : World, Calls Try.prog 72 #[.agg #[.string s, .int .i64 a, .int .i64 b, .int .i64 c], .agg #[.int .i64 px, .int .i64 py], .agg #[.int .i64 ws[j].fAtX, .int .i64 ws[j].fAtY]] wq fun e w' => e = .returned (.int .i64 T) ∧ Below wq.heap.size wq w' := fun wq => by rw [hT]; exact c_travel s a b c px py _ _ wq hpp hpt h1 h2
      rw [← hT] at htr
      have HC := hid (show mkC a px py n j ws[j] = ⟨j, n + T, max (n + T) ws[j].fFrom, max (n + T) ws[j].fFrom + ws[j].fMinutes⟩ by rw [hT]; rfl)
      rw [HC.out] at HST HSP
      clear hT HC
      simp only at HST HSP
      obtain ⟨B, hBe, hBF⟩ : ∃ B, max (n + T) ws[j].fFrom = B ∧ ((B = ws[j].fFrom ∧ n + T ≤ B) ∨ (B = n + T ∧ ws[j].fFrom < B)) := ⟨_, rfl, by omega⟩
      rw [hBe] at HST HSP
      clear hBe
      have g0 := below_cell hB hbb g0
      have y0 := below_cell hB hbv x0
      have y1 := below_cell hB hbv x1
      have y2 := below_cell hB hbv x2
      have y3 := below_cell hB hbv x3
      have y4 := below_cell hB hbv x4
      have y5 := below_cell hB hbv x5
      have y6 := below_cell hB hbv x6
      have hbvr : bv < wr.heap.size := by omega
      obtain ⟨e0, e1, e2, e3⟩ := hS0.out
      obtain ⟨p0, p1, p2, p3⟩ := hP
      have hwr : w.heap.size < wr.heap.size := by omega
      clear x0 x1 x2 x3 x4 x5 x6
      go_wp2_with (go_at_call 72; refine (ct _).mono ?_; rintro e w1 ⟨rfl, hb⟩; obtain ⟨hc, hf⟩ := bcell hb; have hz := hb.size; (try simp at hz); (try have hz0 : ∀ b, b < w.heap.size → b < w1.heap.size := fun b h => by omega); (try have hz1 : w.heap.size < w1.heap.size := by omega); (try have hz2 : w.heap.size + 1 < w1.heap.size := by omega); (try have hz3 : w.heap.size + 2 < w1.heap.size := by omega))
      have hBv : B = ws[j].fFrom := by omega
      subst hBv
      rotate_left
      have hBv : B = n + T := by omega
      subst hBv
      all_goals
        have hB1 : Below wr.heap.size wr w1 := by (repeat' (first | (with_reducible exact Below.refl _ _) | (with_reducible refine Below.alloc ?_ ?_ _) | (with_reducible refine Below.drew ?_) | (with_reducible refine below_drewN ?_ _) | (with_reducible refine Below.setCell ?_ ?_ _) | (with_reducible refine below_via ‹_› ?_ ?_) | (with_reducible refine below_grow ?_ ?_ _ _) | omega | (simp; done) | (simp; omega)))
        have hB01 : Below w.heap.size w w1 := hB.trans (hB1.mono (by omega))
        have hzw : wr.heap.size < w1.heap.size := by omega
        have k1 : w1.cell? ⟨wr.heap.size, 1, none⟩ = some (.int .i64 ws[j].fAtX) := by simp [*, go_sem]
        have k2 : w1.cell? ⟨wr.heap.size, 2, none⟩ = some (.int .i64 ws[j].fAtY) := by simp [*, go_sem]
        have k4 : w1.cell? ⟨wr.heap.size, 4, none⟩ = some (.int .i64 ws[j].fMinutes) := by simp [*, go_sem]
        have k6 : w1.cell? ⟨wr.heap.size, 6, none⟩ = some (.int .i64 ws[j].fUntil) := by simp [*, go_sem]
        have P1 := HP.out.below hB1
        have A1 := hid (HA.out.below hB1)
        have g1 := below_cell hB01 hbb (HX.out k hlt 0 (by omega))
        have S1 := hid (And.intro (below_cell hB1 hwr e0) (And.intro (below_cell hB1 hwr e1) (And.intro (below_cell hB1 hwr e2) (below_cell hB1 hwr e3))))
        clear hc hf hb hz y0 y1 y2 y3 y4 y5 y6 e0 e1 e2 e3 p1 p2 p3 hS0 g0 g1 ct
        have HP1 := hid P1
        obtain ⟨p0', p1, p2, p3⟩ := P1
        have hwv1 : IntKind.i64.wrap (ws[j].fFrom + ws[j].fMinutes) = ws[j].fFrom + ws[j].fMinutes := IntWalk.i64_in _ (by omega)
        have hwv2 : IntKind.i64.wrap (n + T + ws[j].fMinutes) = n + T + ws[j].fMinutes := IntWalk.i64_in _ (by omega)
        have kb1 : ∀ w', But pB w1 w' → w'.cell? ⟨wr.heap.size, 1, none⟩ = some (.int .i64 ws[j].fAtX) := fun w' h => h.cell k1 (by omega)
        have kb2 : ∀ w', But pB w1 w' → w'.cell? ⟨wr.heap.size, 2, none⟩ = some (.int .i64 ws[j].fAtY) := fun w' h => h.cell k2 (by omega)
        have kb4 : ∀ w', But pB w1 w' → w'.cell? ⟨wr.heap.size, 4, none⟩ = some (.int .i64 ws[j].fMinutes) := fun w' h => h.cell k4 (by omega)
        go_region_held3 (fun w' => But pB w1 w') ((repeat' (first | exact But.refl _ _ | refine But.drew ?_ | refine But.drewN ?_ _ | refine But.set ?_))) (fail)
      all_goals
        have hzr2 : wr.heap.size ≤ w1.heap.size := by omega
        obtain ⟨w3, hW3⟩ : ∃ z, z = ((w1.setCell ⟨pB, 0, none⟩ (.int .i64 ws[j].fAtX)).setCell ⟨pB, 1, none⟩ (.int .i64 ws[j].fAtY)).drew := ⟨_, rfl⟩
        rw [← hW3]
        have P3 := hid (show Place w3 pB ws[j].fAtX ws[j].fAtY by rw [hW3]; exact HP1.out.set)
        have k6 : w3.cell? ⟨wr.heap.size, 6, none⟩ = some (.int .i64 ws[j].fUntil) := by rw [hW3]; exact cell_far (cell_far k6 (by omega)) (by omega)
        have A3 := hid (show Acc W1 wb.heap.size 42 4 encCall w3 u12 cs by rw [hW3]; exact ((A1.out.setOther ⟨pB, 0, none⟩ _ HQ.out hpB2).setOther ⟨pB, 1, none⟩ _ HQ.out hpB2).below (by (repeat' (first | (with_reducible exact Below.refl _ _) | (with_reducible refine Below.alloc ?_ ?_ _) | (with_reducible refine Below.drew ?_) | (with_reducible refine below_drewN ?_ _) | (with_reducible refine Below.setCell ?_ ?_ _) | (with_reducible refine below_via ‹_› ?_ ?_) | (with_reducible refine below_grow ?_ ?_ _ _) | omega | (simp; done) | (simp; omega)))))
        have S3 := hid (show w3.cell? ⟨w.heap.size, 0, none⟩ = some (.string s) ∧ w3.cell? ⟨w.heap.size, 1, none⟩ = some (.int .i64 a) ∧ w3.cell? ⟨w.heap.size, 2, none⟩ = some (.int .i64 b) ∧ w3.cell? ⟨w.heap.size, 3, none⟩ = some (.int .i64 c) by
          rw [hW3]; exact ⟨cell_far (cell_far S1.out.1 (by omega)) (by omega), cell_far (cell_far S1.out.2.1 (by omega)) (by omega), cell_far (cell_far S1.out.2.2.1 (by omega)) (by omega), cell_far (cell_far S1.out.2.2.2 (by omega)) (by omega)⟩)
        have hB03 : Below w.heap.size w w3 := by rw [hW3]; (repeat' (first | (with_reducible exact Below.refl _ _) | (with_reducible refine Below.alloc ?_ ?_ _) | (with_reducible refine Below.drew ?_) | (with_reducible refine below_drewN ?_ _) | (with_reducible refine Below.setCell ?_ ?_ _) | (with_reducible refine below_via ‹_› ?_ ?_) | (with_reducible refine below_grow ?_ ?_ _ _) | omega | (simp; done) | (simp; omega)))
        have hz13 : w1.heap.size ≤ w3.heap.size := by rw [hW3]; simp [go_sem]
        have hlcs : cs.length ≤ 1048576 := by have := hcsL.out; omega
        have HGE : ∀ b, u12.ownBlock = some b → b ≠ w.heap.size := fun b hb e => by
          have h1 := A3.out.blk b hb
          omega
        clear hW3 kb1 kb2 kb4 k1 k2 k4 HP1 A1 S1 hB1 hB01
        go_wp2_with (first | (at_builtin; refine wpList_pushG (v := u12) rfl (.tmp 58) (.tmp 64) 35 rfl i0 _ 32 Try.underlying35 hi iz0 iz1 iz2 rfl (by decide) (fun _ => rfl) (⟨j, n + T, ws[j].fFrom, ws[j].fFrom + ws[j].fMinutes⟩ : CallD) rfl A3.out (by (repeat' (first | (with_reducible exact Below.refl _ _) | (with_reducible refine Below.alloc ?_ ?_ _) | (with_reducible refine Below.drew ?_) | (with_reducible refine below_drewN ?_ _) | (with_reducible refine Below.setCell ?_ ?_ _) | (with_reducible refine below_via ‹_› ?_ ?_) | (with_reducible refine below_grow ?_ ?_ _ _) | omega | (simp; done) | (simp; omega)))) 42 1 rfl (one_encCall _) (by unfold maxLen; omega) (by omega) ?_; intro v4 w4 hA4 hgr4 hob4; have hB4 : Below w.heap.size w w4 := hHB1.out.trans (hA4.keep.mono (by omega)); have hA4' := hid hA4; clear hA4; have hP4 := hid ((P3.out.below (by (repeat' (first | (with_reducible exact Below.refl _ _) | (with_reducible refine Below.alloc ?_ ?_ _) | (with_reducible refine Below.drew ?_) | (with_reducible refine below_drewN ?_ _) | (with_reducible refine Below.setCell ?_ ?_ _) | (with_reducible refine below_via ‹_› ?_ ?_) | (with_reducible refine below_grow ?_ ?_ _ _) | omega | (simp; done) | (simp; omega))))).grown hgr4 (fun e => HQ.out pB e rfl)); have hq4 := hid (own_ne hob4 HQ.out (by omega)); have S4 := hid (show _ ∧ _ ∧ _ ∧ _ from ⟨grown_cell (by (repeat' (first | (with_reducible exact Below.refl _ _) | (with_reducible refine Below.alloc ?_ ?_ _) | (with_reducible refine Below.drew ?_) | (with_reducible refine below_drewN ?_ _) | (with_reducible refine Below.setCell ?_ ?_ _) | (with_reducible refine below_via ‹_› ?_ ?_) | (with_reducible refine below_grow ?_ ?_ _ _) | omega | (simp; done) | (simp; omega)))) hgr4 S3.out.1 (fun e => HGE _ e rfl), grown_cell (by (repeat' (first | (with_reducible exact Below.refl _ _) | (with_reducible refine Below.alloc ?_ ?_ _) | (with_reducible refine Below.drew ?_) | (with_reducible refine below_drewN ?_ _) | (with_reducible refine Below.setCell ?_ ?_ _) | (with_reducible refine below_via ‹_› ?_ ?_) | (with_reducible refine below_grow ?_ ?_ _ _) | omega | (simp; done) | (simp; omega)))) hgr4 S3.out.2.1 (fun e => HGE _ e rfl), grown_cell (by (repeat' (first | (with_reducible exact Below.refl _ _) | (with_reducible refine Below.alloc ?_ ?_ _) | (with_reducible refine Below.drew ?_) | (with_reducible refine below_drewN ?_ _) | (with_reducible refine Below.setCell ?_ ?_ _) | (with_reducible refine below_via ‹_› ?_ ?_) | (with_reducible refine below_grow ?_ ?_ _ _) | omega | (simp; done) | (simp; omega)))) hgr4 S3.out.2.2.1 (fun e => HGE _ e rfl), grown_cell (by (repeat' (first | (with_reducible exact Below.refl _ _) | (with_reducible refine Below.alloc ?_ ?_ _) | (with_reducible refine Below.drew ?_) | (with_reducible refine below_drewN ?_ _) | (with_reducible refine Below.setCell ?_ ?_ _) | (with_reducible refine below_via ‹_› ?_ ?_) | (with_reducible refine below_grow ?_ ?_ _ _) | omega | (simp; done) | (simp; omega)))) hgr4 S3.out.2.2.2 (fun e => HGE _ e rfl)⟩); clear hgr4 hob4) | (at_builtin; refine wpList_pushG (v := u12) rfl (.tmp 58) (.tmp 64) 35 rfl i0 _ 32 Try.underlying35 hi iz0 iz1 iz2 rfl (by decide) (fun _ => rfl) (⟨j, n + T, (n + T), (n + T) + ws[j].fMinutes⟩ : CallD) rfl A3.out (by (repeat' (first | (with_reducible exact Below.refl _ _) | (with_reducible refine Below.alloc ?_ ?_ _) | (with_reducible refine Below.drew ?_) | (with_reducible refine below_drewN ?_ _) | (with_reducible refine Below.setCell ?_ ?_ _) | (with_reducible refine below_via ‹_› ?_ ?_) | (with_reducible refine below_grow ?_ ?_ _ _) | omega | (simp; done) | (simp; omega)))) 42 1 rfl (one_encCall _) (by unfold maxLen; omega) (by omega) ?_; intro v4 w4 hA4 hgr4 hob4; have hB4 : Below w.heap.size w w4 := hHB1.out.trans (hA4.keep.mono (by omega)); have hA4' := hid hA4; clear hA4; have hP4 := hid ((P3.out.below (by (repeat' (first | (with_reducible exact Below.refl _ _) | (with_reducible refine Below.alloc ?_ ?_ _) | (with_reducible refine Below.drew ?_) | (with_reducible refine below_drewN ?_ _) | (with_reducible refine Below.setCell ?_ ?_ _) | (with_reducible refine below_via ‹_› ?_ ?_) | (with_reducible refine below_grow ?_ ?_ _ _) | omega | (simp; done) | (simp; omega))))).grown hgr4 (fun e => HQ.out pB e rfl)); have hq4 := hid (own_ne hob4 HQ.out (by omega)); have S4 := hid (show _ ∧ _ ∧ _ ∧ _ from ⟨grown_cell (by (repeat' (first | (with_reducible exact Below.refl _ _) | (with_reducible refine Below.alloc ?_ ?_ _) | (with_reducible refine Below.drew ?_) | (with_reducible refine below_drewN ?_ _) | (with_reducible refine Below.setCell ?_ ?_ _) | (with_reducible refine below_via ‹_› ?_ ?_) | (with_reducible refine below_grow ?_ ?_ _ _) | omega | (simp; done) | (simp; omega)))) hgr4 S3.out.1 (fun e => HGE _ e rfl), grown_cell (by (repeat' (first | (with_reducible exact Below.refl _ _) | (with_reducible refine Below.alloc ?_ ?_ _) | (with_reducible refine Below.drew ?_) | (with_reducible refine below_drewN ?_ _) | (with_reducible refine Below.setCell ?_ ?_ _) | (with_reducible refine below_via ‹_› ?_ ?_) | (with_reducible refine below_grow ?_ ?_ _ _) | omega | (simp; done) | (simp; omega)))) hgr4 S3.out.2.1 (fun e => HGE _ e rfl), grown_cell (by (repeat' (first | (with_reducible exact Below.refl _ _) | (with_reducible refine Below.alloc ?_ ?_ _) | (with_reducible refine Below.drew ?_) | (with_reducible refine below_drewN ?_ _) | (with_reducible refine Below.setCell ?_ ?_ _) | (with_reducible refine below_via ‹_› ?_ ?_) | (with_reducible refine below_grow ?_ ?_ _ _) | omega | (simp; done) | (simp; omega)))) hgr4 S3.out.2.2.1 (fun e => HGE _ e rfl), grown_cell (by (repeat' (first | (with_reducible exact Below.refl _ _) | (with_reducible refine Below.alloc ?_ ?_ _) | (with_reducible refine Below.drew ?_) | (with_reducible refine below_drewN ?_ _) | (with_reducible refine Below.setCell ?_ ?_ _) | (with_reducible refine below_via ‹_› ?_ ?_) | (with_reducible refine below_grow ?_ ?_ _ _) | omega | (simp; done) | (simp; omega)))) hgr4 S3.out.2.2.2 (fun e => HGE _ e rfl)⟩); clear hgr4 hob4))
        all_goals first
          | (go_ret2
             have e := HR.out.trans (HSP.out (by omega))
             rw [show voyC a b bx bY ws os t0 = 6 by rw [HV.out.2, e]; rfl]
             exact callsCode_none (by (repeat' (first | (with_reducible exact Below.refl _ _) | (with_reducible refine Below.alloc ?_ ?_ _) | (with_reducible refine Below.drew ?_) | (with_reducible refine below_drewN ?_ _) | (with_reducible refine Below.setCell ?_ ?_ _) | (with_reducible refine below_via ‹_› ?_ ?_) | (with_reducible refine below_grow ?_ ?_ _ _) | omega | (simp; done) | (simp; omega)))) (by rw [HV.out.1, e]; rfl))
          | (go_roundw
             case rel => exact ⟨k + 1, _, _, _, _, by omega, by go_num, rfl, by rw [List.length_append, hcsL.out]; rfl, hA4'.out, hq4.out, hP4.out, hpt, by omega, by omega, HR.out.trans (HST.out (by omega)), by (repeat' (first | (with_reducible exact Below.refl _ _) | (with_reducible refine Below.alloc ?_ ?_ _) | (with_reducible refine Below.drew ?_) | (with_reducible refine below_drewN ?_ _) | (with_reducible refine Below.setCell ?_ ?_ _) | (with_reducible refine below_via ‹_› ?_ ?_) | (with_reducible refine below_grow ?_ ?_ _ _) | omega | (simp; done) | (simp; omega))), S4⟩
             case measure => simp [intOf]; omega)
    · have hd : os.drop k = [] := List.drop_eq_nil_of_le (by omega)
      have HE := hid (show callsF a ws os bx bY t0 = some cs by rw [HR.out, hd, restC_nil])
      go_wp2
      go_ret2
      have hd := HA.out.done (fun _ => rfl) hHB1.out (by omega)
      exact ⟨_, by rw [HV.out.2, HE.out]; rfl, hd.1, by rw [HV.out.1, HE.out]; exact hd.2⟩
end Go.Proofs.Ytmolcfagmiecjaa
