/- ReadWarning, both sides. Printed by wip/mkwarnr.py. -/
import Derived.Test.YtocpgnpdnoidnaaDoorWarnR
import Derived.Test.YtocpgnpdnoidnaaDoorReadL
namespace Go.Proofs.YtocpgnpdnoidnaaDoor
open Go.RowKit Go.Sort
set_option linter.unusedVariables false
set_option maxRecDepth 100000

theorem c_spec_ReadWarning (s : ByteArray) (w : World) (hs : (s.size : Int) ≤ 1048576) :
    Calls Tryd.prog 13 #[.string s] w (WrnPost (wrnRd s) w) := by
  have cr := fun w' => c_l22Read s w' hs
  obtain ⟨d, hd⟩ : ∃ d, d = (wrnRd s).getD zWrn := ⟨_, rfl⟩
  obtain ⟨b, hb⟩ : ∃ b, b = (wrnRd s).isSome := ⟨_, rfl⟩
  unfold WrnPost wrnV at cr
  unfold WrnPost wrnV
  rw [← hd, ← hb] at cr ⊢
  clear hd hb
  go_enter Tryd.func13, Tryd.ntmps13
  go_wp2_with fail
  refine (cr _).mono ?_
  rintro e w1 ⟨hb1, rfl⟩
  have hbk : Bk w1 w.heap.size 30 [.int .i64 0, .int .i64 0, .int .i64 0, .int .i64 0, .int .i64 0, .int .i64 0, .int .i64 0, .string ⟨#[]⟩] := (Bk.new _ _ _).below hb1
  have b0 := hbk.cell 0 rfl
  have b1 := hbk.cell 1 rfl
  have b2 := hbk.cell 2 rfl
  have b3 := hbk.cell 3 rfl
  have b4 := hbk.cell 4 rfl
  have b5 := hbk.cell 5 rfl
  have b6 := hbk.cell 6 rfl
  have b7 := hbk.cell 7 rfl
  have fx := hbk.fr
  have hz1 := hb1.size
  simp at hz1
  go_wp2_with fail
  refine bodyPost_ret (v := .tuple #[.agg #[.int .i64 d.fNumber, .int .i64 d.fPriority, .int .i64 d.fFrom, .int .i64 d.fUntil, .int .i64 d.fAtX, .int .i64 d.fAtY, .int .i64 d.fRadius, .string d.fWords], .bool b]) (by simp [results, Tryd.results13, go_sem, *]) rfl ⟨by (repeat' (first | (with_reducible exact Below.refl _ _) | (with_reducible refine Below.alloc ?_ ?_ _) | (with_reducible refine Below.drew ?_) | (with_reducible refine below_drewN ?_ _) | (with_reducible refine Below.setCell ?_ ?_ _) | (with_reducible refine below_via ‹_› ?_ ?_) | (with_reducible refine below_grow ?_ ?_ _ _) | omega | (simp; done) | (simp; omega))), rfl⟩
theorem splitB_pcs (s : ByteArray) : Lib.splitB ⟨#[32]⟩ 0 6 s = pcs s.data.toList := by
  have h1 := Lib.splitB_data ⟨#[32]⟩ 0 6 s
  have h3 : (⟨#[32]⟩ : ByteArray).data.toList = [32] := rfl
  rw [h3] at h1
  rw [pcs, ← h1, List.map_map]
  conv => lhs; rw [← List.map_id (Lib.splitB ⟨#[32]⟩ 0 6 s)]
  exact List.map_congr_left fun x _ => (bs_self x).symm
theorem c_Split7 (s : ByteArray) (w : World) (hs : (s.size : Int) ≤ 1048576) (hr : Rd w) :
    Calls Tryd.prog 45 #[.string s, .string ⟨#[32]⟩, .int .i64 7] w fun e w' => ∃ n cap, e = .returned (.slice (some ⟨w.heap.size, 0, none⟩) n cap) ∧ Below w.heap.size w w' ∧
      ((n ≠ 7 ∧ (pcs s.data.toList).length ≠ 7) ∨ (n = 7 ∧ cap = 7 ∧ (pcs s.data.toList).length = 7 ∧ SlO w' w.heap.size 1 encT (.slice (some ⟨w.heap.size, 0, none⟩) 7 7) (pcs s.data.toList))) := by
  obtain ⟨m, hm⟩ := hr.mx
  refine (Tryd.strings_SplitN s ⟨#[32]⟩ 7 m w (by omega) hm (Nat.le_refl 1) (by omega) (by omega)).mono fun e w' ⟨he, hw⟩ => ⟨_, _, he, ?_, ?_⟩
  · rw [hw]; exact (Below.refl _ _).alloc (Nat.le_refl _) _
  · have hdl : s.data.toList.length = s.size := by simp
    by_cases h6 : s.size < 6
    · left
      have h2 : (pcs s.data.toList).length ≠ 7 := pcs_few (by omega)
      refine ⟨?_, h2⟩
      have h3 : min 7 (s.size + 1) - 1 = s.size := by omega
      have h4 := congrArg List.length (Lib.splitB_data ⟨#[32]⟩ 0 s.size s)
      rw [List.length_map] at h4
      have h5 := spK_len s.size s.data.toList
      rw [h3, h4]
      show (Lib.splitK [32] 0 s.size s.data.toList).length ≠ 7
      omega
    · have h3 : min 7 (s.size + 1) = 7 := by omega
      rw [h3] at hw ⊢
      show (_ ∨ _)
      rw [show (7 - 1 : Nat) = 6 from rfl, splitB_pcs] at hw ⊢
      by_cases h7 : (pcs s.data.toList).length = 7
      · refine .inr ⟨h7, rfl, h7, ?_⟩
        rw [hw]
        refine slo_fresh (fun _ => rfl) w (pcs s.data.toList) _ ?_ h7.symm (by omega)
        rw [flat_encT, Lib.cellsOf, h7]; simp
      · exact .inl ⟨h7, h7⟩
theorem ptX_i64 (l : List UInt8) : I64 (ptX l) ∧ I64 (ptY l) := by
  unfold ptX ptY
  split
  · exact ⟨numV_i64 _, numV_i64 _⟩
  · unfold I64; omega
theorem run_eq5 (a b c d e : Bool) (w : World) : (Op.equalIn 10000 67 (.agg #[.bool a, .bool b, .bool c, .bool d, .bool e]) (.agg #[.bool true, .bool true, .bool true, .bool true, .bool true])).run Tryd.prog w = .ok (a && b && c && d && e) w := by
  cases a <;> cases b <;> cases c <;> cases d <;> cases e <;> kernel_rfl
set_option maxHeartbeats 16000000 in
theorem c_impl_ReadWarning (s : ByteArray) (w : World) (hs : (s.size : Int) ≤ 1048576) (hrd : Rd w) :
    Calls Tryd.prog 14 #[.string s] w (WrnPost (wrnRd s) w) := by
  rw [← wrnRdI_eq]
  obtain ⟨W1, hW1⟩ : ∃ W1, W1 = w.alloc (.cells #[.int .i64 0, .int .i64 0, .int .i64 0, .int .i64 0, .int .i64 0, .int .i64 0, .int .i64 0, .string ⟨#[]⟩] 30) := ⟨_, rfl⟩
  obtain ⟨g0, hg0⟩ : ∃ g, g = w.heap.size := ⟨_, rfl⟩
  have hbk1 : Bk W1 g0 30 [.int .i64 0, .int .i64 0, .int .i64 0, .int .i64 0, .int .i64 0, .int .i64 0, .int .i64 0, .string ⟨#[]⟩] := by rw [hW1, hg0]; exact (by (repeat' (first | (with_reducible exact Bk.new _ _ _) | (with_reducible refine Bk.new1 ?_; first | rfl | (simp; done) | omega) | (with_reducible assumption) | (with_reducible refine Bk.alloc ?_ _) | (with_reducible refine Bk.drew ?_) | (with_reducible refine Bk.drewN ?_ _) | (with_reducible refine Bk.other ?_ ?_ _) | (with_reducible apply Bk.drewBy; with_reducible assumption) | (with_reducible apply Bk.viaB; with_reducible assumption) | omega | (simp; done))))
  have hB1 : Below w.heap.size w W1 := by rw [hW1]; (repeat' (first | (with_reducible exact Below.refl _ _) | (with_reducible refine Below.alloc ?_ ?_ _) | (with_reducible refine Below.drew ?_) | (with_reducible refine below_drewN ?_ _) | (with_reducible refine Below.setCell ?_ ?_ _) | (with_reducible refine below_via ‹_› ?_ ?_) | (with_reducible refine below_grow ?_ ?_ _ _) | omega | (simp; done) | (simp; omega)))
  have hgw : w.heap.size ≤ g0 := by omega
  have csp := c_Split7 s W1 hs (hrd.at hB1)
  have HW1 := hid hW1
  have HG0 := hid hg0
  clear hW1 hg0
  go_enter Tryd.func14, Tryd.ntmps14
  go_wp2_with fail
  rw [← HW1.out]
  (try rw [← HG0.out])
  refine csp.mono ?_
  rintro e w2 ⟨n, cap, rfl, hb2, hor⟩
  have hz2 := hb2.size
  have hg2 := hbk1.below hb2
  have hB2 : Below w.heap.size w w2 := hB1.trans (hb2.mono hB1.size)
  have hl2 := hg2.lt
  rcases hor with ⟨hn7, hp7⟩ | ⟨rfl, rfl, hp7, hS⟩
  · have HR := hid (show wrnRdI s = none from wrd7_len hp7)
    have hnI : ((n : Int) != 7) = true := by simp; omega
    have b0 := hg2.cell 0 rfl
    have b1 := hg2.cell 1 rfl
    have b2 := hg2.cell 2 rfl
    have b3 := hg2.cell 3 rfl
    have b4 := hg2.cell 4 rfl
    have b5 := hg2.cell 5 rfl
    have b6 := hg2.cell 6 rfl
    have b7 := hg2.cell 7 rfl
    have fx := hg2.fr
    clear csp hn7 hp7 hb2
    go_wp2_with fail
    refine bodyPost_ret (v := .tuple #[.agg #[.int .i64 0, .int .i64 0, .int .i64 0, .int .i64 0, .int .i64 0, .int .i64 0, .int .i64 0, .string ⟨#[]⟩], .bool false]) (by simp [results, Tryd.results14, go_sem, *]) rfl (wrnPost_none (by (repeat' (first | (with_reducible exact Below.refl _ _) | (with_reducible refine Below.alloc ?_ ?_ _) | (with_reducible refine Below.drew ?_) | (with_reducible refine below_drewN ?_ _) | (with_reducible refine Below.setCell ?_ ?_ _) | (with_reducible refine below_via ‹_› ?_ ?_) | (with_reducible refine below_grow ?_ ?_ _ _) | omega | (simp; done) | (simp; omega)))) HR.out)
  · have hsz := pcs_size s
    obtain ⟨bs0, hbs⟩ : ∃ z, z = pcs s.data.toList := ⟨_, rfl⟩
    have hRd0 : wrnRdI s = wrd7 (fun d => (wtR d).toList == s.toList) bs0 := by rw [wrnRdI, ← hbs]
    rw [← hbs] at hsz hp7 hS
    obtain ⟨a, p, f, u, t, r, ws, rfl⟩ := seven_of hp7
    have hsa : (a.size : Int) ≤ 1048576 := by have := hsz a (by simp); omega
    have hsf : (f.size : Int) ≤ 1048576 := by have := hsz f (by simp); omega
    have hsu : (u.size : Int) ≤ 1048576 := by have := hsz u (by simp); omega
    have hst : (t.size : Int) ≤ 1048576 := by have := hsz t (by simp); omega
    have hsr : (r.size : Int) ≤ 1048576 := by have := hsz r (by simp); omega
    have hwss : (ws.size : Int) ≤ 1048576 := by have := hsz ws (by simp); omega
    obtain ⟨bb, off, hbe, hlo, hbb2, hcl⟩ := cell_str hS.1 rfl (k := 0) (by simp)
    have hbe2 : bb = W1.heap.size ∧ off = 0 := by injection hbe with hbe; injection hbe with e1 e2 e3; exact ⟨e1.symm, e2.symm⟩
    obtain ⟨hbe3, rfl⟩ := hbe2
    have hlg : g0 < bb := by have := hbk1.lt; omega
    have d0 := hcl 0 (by simp)
    have d1 := hcl 1 (by simp)
    have d2 := hcl 2 (by simp)
    have d3 := hcl 3 (by simp)
    have d4 := hcl 4 (by simp)
    have d5 := hcl 5 (by simp)
    have d6 := hcl 6 (by simp)
    simp only [List.getElem_cons_zero, List.getElem_cons_succ, Nat.add_zero, Nat.zero_add] at d0 d1 d2 d3 d4 d5 d6
    have ca := fun w' h => c_ReadDecimal a w' hsa h
    have cf := fun w' h => c_ReadDecimal f w' hsf h
    have cu := fun w' h => c_ReadDecimal u w' hsu h
    have cr := fun w' h => c_ReadDecimal r w' hsr h
    have ct := fun w' h => c_ReadPoint t w' hst h
    have hwk : wOk a f u t r = (numB a.data.toList && numB f.data.toList && numB u.data.toList && ptB t.data.toList && numB r.data.toList) := rfl
    have hwd : wD a p f u t r ws = ⟨numV a.data.toList, prioK p 3, numV f.data.toList, numV u.data.toList, ptX t.data.toList, ptY t.data.toList, numV r.data.toList, ws⟩ := rfl
    have hI := And.intro (numV_i64 a.data.toList) (And.intro (numV_i64 f.data.toList) (And.intro (numV_i64 u.data.toList) (And.intro (numV_i64 r.data.toList) (ptX_i64 t.data.toList))))
    obtain ⟨na, hna⟩ : ∃ z, z = numV a.data.toList := ⟨_, rfl⟩
    obtain ⟨nf, hnf⟩ : ∃ z, z = numV f.data.toList := ⟨_, rfl⟩
    obtain ⟨nu, hnu⟩ : ∃ z, z = numV u.data.toList := ⟨_, rfl⟩
    obtain ⟨nr, hnr⟩ : ∃ z, z = numV r.data.toList := ⟨_, rfl⟩
    obtain ⟨nx, hnx⟩ : ∃ z, z = ptX t.data.toList := ⟨_, rfl⟩
    obtain ⟨ny, hny⟩ : ∃ z, z = ptY t.data.toList := ⟨_, rfl⟩
    obtain ⟨oa, hoa⟩ : ∃ z, z = numB a.data.toList := ⟨_, rfl⟩
    obtain ⟨of', hof⟩ : ∃ z, z = numB f.data.toList := ⟨_, rfl⟩
    obtain ⟨ou, hou⟩ : ∃ z, z = numB u.data.toList := ⟨_, rfl⟩
    obtain ⟨ot, hot⟩ : ∃ z, z = ptB t.data.toList := ⟨_, rfl⟩
    obtain ⟨or', hor⟩ : ∃ z, z = numB r.data.toList := ⟨_, rfl⟩
    rw [← hoa, ← hof, ← hou, ← hot, ← hor] at hwk
    rw [← hna, ← hnf, ← hnu, ← hnx, ← hny, ← hnr] at hwd
    rw [← hna, ← hnf, ← hnu, ← hnr, ← hnx, ← hny] at hI
    rw [← hna, ← hoa] at ca
    rw [← hnf, ← hof] at cf
    rw [← hnu, ← hou] at cu
    rw [← hnr, ← hor] at cr
    unfold PtPost at ct
    rw [← hnx, ← hny, ← hot] at ct
    have HWK := hid hwk
    have HWD := hid hwd
    have HRd := hid hRd0
    have HI := hid hI
    have HBE := hid hbe3
    have HG2 := hid hg2
    clear hsz hcl hS hwk hwd hI hna hnf hnu hnr hnx hny hoa hof hou hot hor hRd0 hbs hbe csp hbe3 hg2 hb2
    rw [← HBE.out]
    go_wp2_with fail
    obtain ⟨A, hA⟩ : ∃ z, z = w2.heap.size := ⟨_, rfl⟩
    obtain ⟨X, hX⟩ : ∃ z, z = w2.heap.size + 1 := ⟨_, rfl⟩
    obtain ⟨W2, hW2⟩ : ∃ z, z = (w2.alloc (.cells #[.bool false, .bool false, .bool false, .bool false, .bool false] 67)).alloc (.cells #[.int .i64 0, .int .i64 0, .int .i64 0, .int .i64 0, .int .i64 0, .int .i64 0, .int .i64 0, .string ws] 30) := ⟨_, rfl⟩
    rw [← hW2]
    (try rw [← hX])
    (try rw [← hA])
    have hXW2 : Bk W2 X 30 [.int .i64 0, .int .i64 0, .int .i64 0, .int .i64 0, .int .i64 0, .int .i64 0, .int .i64 0, .string ws] := by rw [hW2, hX]; exact Bk.new1 (by simp)
    have hAW2 : Bk W2 A 67 [.bool false, .bool false, .bool false, .bool false, .bool false] := by rw [hW2, hA]; exact (by (repeat' (first | (with_reducible exact Bk.new _ _ _) | (with_reducible refine Bk.new1 ?_; first | rfl | (simp; done) | omega) | (with_reducible assumption) | (with_reducible refine Bk.alloc ?_ _) | (with_reducible refine Bk.drew ?_) | (with_reducible refine Bk.drewN ?_ _) | (with_reducible refine Bk.other ?_ ?_ _) | (with_reducible apply Bk.drewBy; with_reducible assumption) | (with_reducible apply Bk.viaB; with_reducible assumption) | omega | (simp; done))))
    have hgW2 : Bk W2 g0 30 [.int .i64 0, .int .i64 0, .int .i64 0, .int .i64 0, .int .i64 0, .int .i64 0, .int .i64 0, .string ⟨#[]⟩] := by rw [hW2]; have := HG2.out; exact (by (repeat' (first | (with_reducible exact Bk.new _ _ _) | (with_reducible refine Bk.new1 ?_; first | rfl | (simp; done) | omega) | (with_reducible assumption) | (with_reducible refine Bk.alloc ?_ _) | (with_reducible refine Bk.drew ?_) | (with_reducible refine Bk.drewN ?_ _) | (with_reducible refine Bk.other ?_ ?_ _) | (with_reducible apply Bk.drewBy; with_reducible assumption) | (with_reducible apply Bk.viaB; with_reducible assumption) | omega | (simp; done))))
    have hBr : Below w2.heap.size w2 W2 := by rw [hW2]; (repeat' (first | (with_reducible exact Below.refl _ _) | (with_reducible refine Below.alloc ?_ ?_ _) | (with_reducible refine Below.drew ?_) | (with_reducible refine below_drewN ?_ _) | (with_reducible refine Below.setCell ?_ ?_ _) | (with_reducible refine below_via ‹_› ?_ ?_) | (with_reducible refine below_grow ?_ ?_ _ _) | omega | (simp; done) | (simp; omega)))
    have hBW2 : Below w.heap.size w W2 := hB2.trans (hBr.mono hB2.size)
    have hbbW2 : bb < W2.heap.size := Nat.lt_of_lt_of_le hbb2 hBr.size
    have q1W2 := below_cell hBr hbb2 d1
    have q2W2 := below_cell hBr hbb2 d2
    have q3W2 := below_cell hBr hbb2 d3
    have q4W2 := below_cell hBr hbb2 d4
    have q5W2 := below_cell hBr hbb2 d5
    have hXg : X ≠ g0 := by omega
    have hXA : X ≠ A := by omega
    have hAX : A ≠ X := by omega
    have hAg : A ≠ g0 := by omega
    have hAw : w.heap.size ≤ A := by omega
    have hXw : w.heap.size ≤ X := by omega
    have hbA : bb < A := by omega
    have hbX : bb < X := by omega
    clear hW2 hX hA hBr d0 d1 d2 d3 d4 d5 d6
    refine (ca _ (hrd.at hBW2)).mono ?_
    rintro e w3 ⟨rfl, hb3⟩
    have hX3 := hXW2.below hb3
    have hA3 := hAW2.below hb3
    have hg3 := hgW2.below hb3
    have hBw3 : Below w.heap.size w w3 := hBW2.trans (hb3.mono hBW2.size)
    have q13 := below_cell hb3 hbbW2 q1W2
    have q23 := below_cell hb3 hbbW2 q2W2
    have q33 := below_cell hb3 hbbW2 q3W2
    have q43 := below_cell hb3 hbbW2 q4W2
    have q53 := below_cell hb3 hbbW2 q5W2
    have hbb3 : bb < w3.heap.size := Nat.lt_of_lt_of_le hbbW2 hb3.size
    have hXl := hX3.lt
    have hAl := hA3.lt
    have x0 := hX3.cell 0 rfl
    have a0 := hA3.cell 0 rfl
    have fX := hX3.fr
    have fA := hA3.fr
    obtain ⟨V3, hV3⟩ : ∃ z, z = ((w3.setCell ⟨X, 0, none⟩ (.int .i64 na)).setCell ⟨A, 0, none⟩ (.bool oa)) := ⟨_, rfl⟩
    have hXV3 : Bk V3 X 30 [.int .i64 na, .int .i64 0, .int .i64 0, .int .i64 0, .int .i64 0, .int .i64 0, .int .i64 0, .string ws] := by rw [hV3]; exact ((hX3.set 0 _).other hAX _)
    have hAV3 : Bk V3 A 67 [.bool oa, .bool false, .bool false, .bool false, .bool false] := by rw [hV3]; exact ((hA3.other hXA _).set 0 _)
    have hgV3 : Bk V3 g0 30 [.int .i64 0, .int .i64 0, .int .i64 0, .int .i64 0, .int .i64 0, .int .i64 0, .int .i64 0, .string ⟨#[]⟩] := by rw [hV3]; exact ((hg3.other hXg _).other hAg _)
    have hKV3 : Kept (fun b => b = X ∨ b = A) w3 V3 := by rw [hV3]; exact (((Kept.refl (fun b => b = X ∨ b = A) w3).set ⟨X, 0, none⟩ (.int .i64 na) (.inl rfl)).set ⟨A, 0, none⟩ (.bool oa) (.inr rfl))
    have hBV3 : Below w.heap.size w V3 := hBw3.trans (hKV3.below hBw3.size (fun b hb => by omega))
    have hbbV3 : bb < V3.heap.size := Nat.lt_of_lt_of_le hbb3 hKV3.size
    have q13v := hKV3.cell hbb3 (show ¬ (bb = X ∨ bb = A) by omega) q13
    have q23v := hKV3.cell hbb3 (show ¬ (bb = X ∨ bb = A) by omega) q23
    have q33v := hKV3.cell hbb3 (show ¬ (bb = X ∨ bb = A) by omega) q33
    have q43v := hKV3.cell hbb3 (show ¬ (bb = X ∨ bb = A) by omega) q43
    have q53v := hKV3.cell hbb3 (show ¬ (bb = X ∨ bb = A) by omega) q53
    have HV3 := hid hV3
    have HXV3 := hid hXV3
    have HAV3 := hid hAV3
    have HGV3 := hid hgV3
    clear hV3 hKV3 hb3 hX3 hA3 hg3 hXV3 hAV3 hgV3
    go_wp2_with fail
    rw [← HV3.out]
    have hXV3 := HXV3.out
    have hAV3 := HAV3.out
    have hgV3 := HGV3.out
    clear x0 a0 fX fA hXl hAl q13 q23 q33 q43 q53
    refine (cf _ (hrd.at hBV3)).mono ?_
    rintro e w4 ⟨rfl, hb4⟩
    have hX4 := hXV3.below hb4
    have hA4 := hAV3.below hb4
    have hg4 := hgV3.below hb4
    have hBw4 : Below w.heap.size w w4 := hBV3.trans (hb4.mono hBV3.size)
    have q14 := below_cell hb4 hbbV3 q13v
    have q34 := below_cell hb4 hbbV3 q33v
    have q44 := below_cell hb4 hbbV3 q43v
    have q54 := below_cell hb4 hbbV3 q53v
    have hbb4 : bb < w4.heap.size := Nat.lt_of_lt_of_le hbbV3 hb4.size
    have hXl := hX4.lt
    have hAl := hA4.lt
    have x2 := hX4.cell 2 rfl
    have a1 := hA4.cell 1 rfl
    have fX := hX4.fr
    have fA := hA4.fr
    obtain ⟨V4, hV4⟩ : ∃ z, z = ((w4.setCell ⟨X, 2, none⟩ (.int .i64 nf)).setCell ⟨A, 1, none⟩ (.bool of')) := ⟨_, rfl⟩
    have hXV4 : Bk V4 X 30 [.int .i64 na, .int .i64 0, .int .i64 nf, .int .i64 0, .int .i64 0, .int .i64 0, .int .i64 0, .string ws] := by rw [hV4]; exact ((hX4.set 2 _).other hAX _)
    have hAV4 : Bk V4 A 67 [.bool oa, .bool of', .bool false, .bool false, .bool false] := by rw [hV4]; exact ((hA4.other hXA _).set 1 _)
    have hgV4 : Bk V4 g0 30 [.int .i64 0, .int .i64 0, .int .i64 0, .int .i64 0, .int .i64 0, .int .i64 0, .int .i64 0, .string ⟨#[]⟩] := by rw [hV4]; exact ((hg4.other hXg _).other hAg _)
    have hKV4 : Kept (fun b => b = X ∨ b = A) w4 V4 := by rw [hV4]; exact (((Kept.refl (fun b => b = X ∨ b = A) w4).set ⟨X, 2, none⟩ (.int .i64 nf) (.inl rfl)).set ⟨A, 1, none⟩ (.bool of') (.inr rfl))
    have hBV4 : Below w.heap.size w V4 := hBw4.trans (hKV4.below hBw4.size (fun b hb => by omega))
    have hbbV4 : bb < V4.heap.size := Nat.lt_of_lt_of_le hbb4 hKV4.size
    have q14v := hKV4.cell hbb4 (show ¬ (bb = X ∨ bb = A) by omega) q14
    have q34v := hKV4.cell hbb4 (show ¬ (bb = X ∨ bb = A) by omega) q34
    have q44v := hKV4.cell hbb4 (show ¬ (bb = X ∨ bb = A) by omega) q44
    have q54v := hKV4.cell hbb4 (show ¬ (bb = X ∨ bb = A) by omega) q54
    have HV4 := hid hV4
    have HXV4 := hid hXV4
    have HAV4 := hid hAV4
    have HGV4 := hid hgV4
    clear hV4 hKV4 hb4 hX4 hA4 hg4 hXV4 hAV4 hgV4
    go_wp2_with fail
    rw [← HV4.out]
    have hXV4 := HXV4.out
    have hAV4 := HAV4.out
    have hgV4 := HGV4.out
    clear x2 a1 fX fA hXl hAl q14 q34 q44 q54
    refine (cu _ (hrd.at hBV4)).mono ?_
    rintro e w5 ⟨rfl, hb5⟩
    have hX5 := hXV4.below hb5
    have hA5 := hAV4.below hb5
    have hg5 := hgV4.below hb5
    have hBw5 : Below w.heap.size w w5 := hBV4.trans (hb5.mono hBV4.size)
    have q15 := below_cell hb5 hbbV4 q14v
    have q45 := below_cell hb5 hbbV4 q44v
    have q55 := below_cell hb5 hbbV4 q54v
    have hbb5 : bb < w5.heap.size := Nat.lt_of_lt_of_le hbbV4 hb5.size
    have hXl := hX5.lt
    have hAl := hA5.lt
    have x3 := hX5.cell 3 rfl
    have a2 := hA5.cell 2 rfl
    have fX := hX5.fr
    have fA := hA5.fr
    obtain ⟨V5, hV5⟩ : ∃ z, z = ((w5.setCell ⟨X, 3, none⟩ (.int .i64 nu)).setCell ⟨A, 2, none⟩ (.bool ou)) := ⟨_, rfl⟩
    have hXV5 : Bk V5 X 30 [.int .i64 na, .int .i64 0, .int .i64 nf, .int .i64 nu, .int .i64 0, .int .i64 0, .int .i64 0, .string ws] := by rw [hV5]; exact ((hX5.set 3 _).other hAX _)
    have hAV5 : Bk V5 A 67 [.bool oa, .bool of', .bool ou, .bool false, .bool false] := by rw [hV5]; exact ((hA5.other hXA _).set 2 _)
    have hgV5 : Bk V5 g0 30 [.int .i64 0, .int .i64 0, .int .i64 0, .int .i64 0, .int .i64 0, .int .i64 0, .int .i64 0, .string ⟨#[]⟩] := by rw [hV5]; exact ((hg5.other hXg _).other hAg _)
    have hKV5 : Kept (fun b => b = X ∨ b = A) w5 V5 := by rw [hV5]; exact (((Kept.refl (fun b => b = X ∨ b = A) w5).set ⟨X, 3, none⟩ (.int .i64 nu) (.inl rfl)).set ⟨A, 2, none⟩ (.bool ou) (.inr rfl))
    have hBV5 : Below w.heap.size w V5 := hBw5.trans (hKV5.below hBw5.size (fun b hb => by omega))
    have hbbV5 : bb < V5.heap.size := Nat.lt_of_lt_of_le hbb5 hKV5.size
    have q15v := hKV5.cell hbb5 (show ¬ (bb = X ∨ bb = A) by omega) q15
    have q45v := hKV5.cell hbb5 (show ¬ (bb = X ∨ bb = A) by omega) q45
    have q55v := hKV5.cell hbb5 (show ¬ (bb = X ∨ bb = A) by omega) q55
    have HV5 := hid hV5
    have HXV5 := hid hXV5
    have HAV5 := hid hAV5
    have HGV5 := hid hgV5
    clear hV5 hKV5 hb5 hX5 hA5 hg5 hXV5 hAV5 hgV5
    go_wp2_with fail
    rw [← HV5.out]
    have hXV5 := HXV5.out
    have hAV5 := HAV5.out
    have hgV5 := HGV5.out
    clear x3 a2 fX fA hXl hAl q15 q45 q55
    refine (ct _ (hrd.at hBV5)).mono ?_
    rintro e w6 ⟨rfl, hb6⟩
    have hX6 := hXV5.below hb6
    have hA6 := hAV5.below hb6
    have hg6 := hgV5.below hb6
    have hBw6 : Below w.heap.size w w6 := hBV5.trans (hb6.mono hBV5.size)
    have q16 := below_cell hb6 hbbV5 q15v
    have q56 := below_cell hb6 hbbV5 q55v
    have hbb6 : bb < w6.heap.size := Nat.lt_of_lt_of_le hbbV5 hb6.size
    have hXl := hX6.lt
    have hAl := hA6.lt
    have x4 := hX6.cell 4 rfl
    have x5 := hX6.cell 5 rfl
    have a3 := hA6.cell 3 rfl
    have fX := hX6.fr
    have fA := hA6.fr
    obtain ⟨V6, hV6⟩ : ∃ z, z = (((w6.setCell ⟨X, 4, none⟩ (.int .i64 nx)).setCell ⟨X, 5, none⟩ (.int .i64 ny)).setCell ⟨A, 3, none⟩ (.bool ot)) := ⟨_, rfl⟩
    have hXV6 : Bk V6 X 30 [.int .i64 na, .int .i64 0, .int .i64 nf, .int .i64 nu, .int .i64 nx, .int .i64 ny, .int .i64 0, .string ws] := by rw [hV6]; exact (((hX6.set 4 _).set 5 _).other hAX _)
    have hAV6 : Bk V6 A 67 [.bool oa, .bool of', .bool ou, .bool ot, .bool false] := by rw [hV6]; exact (((hA6.other hXA _).other hXA _).set 3 _)
    have hgV6 : Bk V6 g0 30 [.int .i64 0, .int .i64 0, .int .i64 0, .int .i64 0, .int .i64 0, .int .i64 0, .int .i64 0, .string ⟨#[]⟩] := by rw [hV6]; exact (((hg6.other hXg _).other hXg _).other hAg _)
    have hKV6 : Kept (fun b => b = X ∨ b = A) w6 V6 := by rw [hV6]; exact ((((Kept.refl (fun b => b = X ∨ b = A) w6).set ⟨X, 4, none⟩ (.int .i64 nx) (.inl rfl)).set ⟨X, 5, none⟩ (.int .i64 ny) (.inl rfl)).set ⟨A, 3, none⟩ (.bool ot) (.inr rfl))
    have hBV6 : Below w.heap.size w V6 := hBw6.trans (hKV6.below hBw6.size (fun b hb => by omega))
    have hbbV6 : bb < V6.heap.size := Nat.lt_of_lt_of_le hbb6 hKV6.size
    have q16v := hKV6.cell hbb6 (show ¬ (bb = X ∨ bb = A) by omega) q16
    have q56v := hKV6.cell hbb6 (show ¬ (bb = X ∨ bb = A) by omega) q56
    have HV6 := hid hV6
    have HXV6 := hid hXV6
    have HAV6 := hid hAV6
    have HGV6 := hid hgV6
    clear hV6 hKV6 hb6 hX6 hA6 hg6 hXV6 hAV6 hgV6
    go_wp2_with fail
    rw [← HV6.out]
    have hXV6 := HXV6.out
    have hAV6 := HAV6.out
    have hgV6 := HGV6.out
    clear x4 x5 a3 fX fA hXl hAl q16 q56
    refine (cr _ (hrd.at hBV6)).mono ?_
    rintro e w7 ⟨rfl, hb7⟩
    have hX7 := hXV6.below hb7
    have hA7 := hAV6.below hb7
    have hg7 := hgV6.below hb7
    have hBw7 : Below w.heap.size w w7 := hBV6.trans (hb7.mono hBV6.size)
    have q17 := below_cell hb7 hbbV6 q16v
    have hbb7 : bb < w7.heap.size := Nat.lt_of_lt_of_le hbbV6 hb7.size
    have hXl := hX7.lt
    have hAl := hA7.lt
    have x6 := hX7.cell 6 rfl
    have a4 := hA7.cell 4 rfl
    have fX := hX7.fr
    have fA := hA7.fr
    obtain ⟨V7, hV7⟩ : ∃ z, z = ((w7.setCell ⟨X, 6, none⟩ (.int .i64 nr)).setCell ⟨A, 4, none⟩ (.bool or')) := ⟨_, rfl⟩
    have hXV7 : Bk V7 X 30 [.int .i64 na, .int .i64 0, .int .i64 nf, .int .i64 nu, .int .i64 nx, .int .i64 ny, .int .i64 nr, .string ws] := by rw [hV7]; exact ((hX7.set 6 _).other hAX _)
    have hAV7 : Bk V7 A 67 [.bool oa, .bool of', .bool ou, .bool ot, .bool or'] := by rw [hV7]; exact ((hA7.other hXA _).set 4 _)
    have hgV7 : Bk V7 g0 30 [.int .i64 0, .int .i64 0, .int .i64 0, .int .i64 0, .int .i64 0, .int .i64 0, .int .i64 0, .string ⟨#[]⟩] := by rw [hV7]; exact ((hg7.other hXg _).other hAg _)
    have hKV7 : Kept (fun b => b = X ∨ b = A) w7 V7 := by rw [hV7]; exact (((Kept.refl (fun b => b = X ∨ b = A) w7).set ⟨X, 6, none⟩ (.int .i64 nr) (.inl rfl)).set ⟨A, 4, none⟩ (.bool or') (.inr rfl))
    have hBV7 : Below w.heap.size w V7 := hBw7.trans (hKV7.below hBw7.size (fun b hb => by omega))
    have hbbV7 : bb < V7.heap.size := Nat.lt_of_lt_of_le hbb7 hKV7.size
    have q17v := hKV7.cell hbb7 (show ¬ (bb = X ∨ bb = A) by omega) q17
    have HV7 := hid hV7
    have HXV7 := hid hXV7
    have HAV7 := hid hAV7
    have HGV7 := hid hgV7
    clear hV7 hKV7 hb7 hX7 hA7 hg7 hXV7 hAV7 hgV7
    go_wp2_with fail
    rw [← HV7.out]
    have hXV7 := HXV7.out
    have hAV7 := HAV7.out
    have hgV7 := HGV7.out
    clear x6 a4 fX fA hXl hAl q17
    have hltX := hXV7.lt
    have hltA := hAV7.lt
    have HX7 := hid hXV7
    have HA7 := hid hAV7
    have HG7 := hid hgV7
    have hb7 := hbbV7
    have hB7 := hBV7
    have e1 := q17v
    clear hXV7 hAV7 hgV7 ca cf cu cr ct q1W2 q2W2 q3W2 q4W2 q5W2 q13v q23v q33v q43v q53v
    (try clear q17v)
    go_loopw [7] (fun i wr => ∃ j : Nat, j ≤ 3 ∧ i = .int .i64 ((j : Int) + 1) ∧ Bk wr X 30 [.int .i64 na, .int .i64 (prioK p j), .int .i64 nf, .int .i64 nu, .int .i64 nx, .int .i64 ny, .int .i64 nr, .string ws] ∧ Only X V7 wr) (fun i _ => 4 - (intOf i).toNat)
    case atStart => exact ⟨0, by omega, rfl, HX7.out, only_of (Kept.refl _ _)⟩
    case round =>
      obtain ⟨j, hj3, rfl, hbj, hO⟩ := hrel
      by_cases hj : j < 3
      · have hjI : (j : Int) + 1 ≤ 3 := by omega
        have c1 := hO.out.cell hb7 (show ¬ bb = X by omega) e1
        have hbq : bb < wr.heap.size := Nat.lt_of_lt_of_le hb7 hO.out.size
        have k1 : ∀ w', Since wr w' → w'.cell? ⟨bb, 1, none⟩ = some (.string p) := fun w' h => below_cell h.out hbq c1
        have HBJ := hid hbj
        have HO := hid hO
        have hXq := hbj.lt
        clear hbj hO e1 c1
        cases hq : ((nameP ((j : Int) + 1)).toList == p.toList)
        · have HP := hid (show prioK p (j + 1) = prioK p j by rw [prioK, hq]; rfl)
          go_wp2_with fail
          go_region_held3 (fun w' => Since wr w') ((refine since_of ?_; (repeat' (first | (with_reducible exact Below.refl _ _) | (with_reducible refine Below.alloc ?_ ?_ _) | (with_reducible refine Below.drew ?_) | (with_reducible refine below_drewN ?_ _) | (with_reducible refine Below.setCell ?_ ?_ _) | (with_reducible refine below_via ‹_› ?_ ?_) | (with_reducible refine below_grow ?_ ?_ _ _) | omega | (simp; done) | (simp; omega))))) (first | (go_at_call 42; refine (c_PriorityName _ _).mono ?_; rintro e w5' ⟨rfl, hb5⟩; have hz5 := hb5.size; have hS5 : Since wr w5' := (by refine since_of ?_; (repeat' (first | (with_reducible exact Below.refl _ _) | (with_reducible refine Below.alloc ?_ ?_ _) | (with_reducible refine Below.drew ?_) | (with_reducible refine below_drewN ?_ _) | (with_reducible refine Below.setCell ?_ ?_ _) | (with_reducible refine below_via ‹_› ?_ ?_) | (with_reducible refine below_grow ?_ ?_ _ _) | omega | (simp; done) | (simp; omega))))) | fail)
          go_wp2_with fail
          go_roundw
          case rel => exact ⟨j + 1, by omega, by go_num, by rw [HP.out]; exact HBJ.out.below hS5.out, only_of (HO.out.out.trans (Kept.of hS5.out))⟩
          case measure => simp [intOf]; omega
        · have HP := hid (show prioK p (j + 1) = (j : Int) + 1 by rw [prioK, hq]; rfl)
          go_wp2_with fail
          go_region_held3 (fun w' => Since wr w') ((refine since_of ?_; (repeat' (first | (with_reducible exact Below.refl _ _) | (with_reducible refine Below.alloc ?_ ?_ _) | (with_reducible refine Below.drew ?_) | (with_reducible refine below_drewN ?_ _) | (with_reducible refine Below.setCell ?_ ?_ _) | (with_reducible refine below_via ‹_› ?_ ?_) | (with_reducible refine below_grow ?_ ?_ _ _) | omega | (simp; done) | (simp; omega))))) (first | (go_at_call 42; refine (c_PriorityName _ _).mono ?_; rintro e w5' ⟨rfl, hb5⟩; have hz5 := hb5.size; have hS5 : Since wr w5' := (by refine since_of ?_; (repeat' (first | (with_reducible exact Below.refl _ _) | (with_reducible refine Below.alloc ?_ ?_ _) | (with_reducible refine Below.drew ?_) | (with_reducible refine below_drewN ?_ _) | (with_reducible refine Below.setCell ?_ ?_ _) | (with_reducible refine below_via ‹_› ?_ ?_) | (with_reducible refine below_grow ?_ ?_ _ _) | omega | (simp; done) | (simp; omega)))); have hbX5 := HBJ.out.below hS5.out; have x1 := hbX5.cell 1 rfl; have fx5 := hbX5.fr; have hX5 := hbX5.lt) | fail)
          go_wp2_with fail
          go_roundw
          case rel => exact ⟨j + 1, by omega, by go_num, by rw [HP.out]; exact hbX5.set 1 _, only_of ((HO.out.out.trans (Kept.of hS5.out)).set _ _ rfl)⟩
          case measure => simp [intOf]; omega
      · have ej : j = 3 := by omega
        subst ej
        have hgQ := HG7.out.kept hO.out (show ¬ g0 = X by omega)
        have hAQ := HA7.out.kept hO.out (show ¬ A = X by omega)
        have hBQ : Below w.heap.size w wr := hB7.trans (hO.out.below hB7.size (fun k hk => by omega))
        have a0 := hAQ.cell 0 rfl
        have a1 := hAQ.cell 1 rfl
        have a2 := hAQ.cell 2 rfl
        have a3 := hAQ.cell 3 rfl
        have a4 := hAQ.cell 4 rfl
        have x0 := hbj.cell 0 rfl
        have x1 := hbj.cell 1 rfl
        have x2 := hbj.cell 2 rfl
        have x3 := hbj.cell 3 rfl
        have x4 := hbj.cell 4 rfl
        have x5 := hbj.cell 5 rfl
        have x6 := hbj.cell 6 rfl
        have x7 := hbj.cell 7 rfl
        have b0 := hgQ.cell 0 rfl
        have b1 := hgQ.cell 1 rfl
        have b2 := hgQ.cell 2 rfl
        have b3 := hgQ.cell 3 rfl
        have b4 := hgQ.cell 4 rfl
        have b5 := hgQ.cell 5 rfl
        have b6 := hgQ.cell 6 rfl
        have b7 := hgQ.cell 7 rfl
        have fxg := hgQ.fr
        have hltg := hgQ.lt
        have HGQ := hid hgQ
        have HBJ := hid hbj
        clear hgQ hAQ hbj hO e1
        cases hall : (oa && of' && ou && ot && or')
        · have HR := hid (show wrnRdI s = none by rw [HRd.out]; exact wrd7_no (by rw [HWK.out, hall]))
          have he5 := run_eq5 oa of' ou ot or'
          rw [hall] at he5
          clear hall
          go_wp2_with fail
          refine bodyPost_ret (v := .tuple #[.agg #[.int .i64 0, .int .i64 0, .int .i64 0, .int .i64 0, .int .i64 0, .int .i64 0, .int .i64 0, .string ⟨#[]⟩], .bool false]) (by simp [results, Tryd.results14, go_sem, *]) rfl (wrnPost_none (by (repeat' (first | (with_reducible exact Below.refl _ _) | (with_reducible refine Below.alloc ?_ ?_ _) | (with_reducible refine Below.drew ?_) | (with_reducible refine below_drewN ?_ _) | (with_reducible refine Below.setCell ?_ ?_ _) | (with_reducible refine below_via ‹_› ?_ ?_) | (with_reducible refine below_grow ?_ ?_ _ _) | omega | (simp; done) | (simp; omega)))) HR.out)
        · simp only [Bool.and_eq_true] at hall
          obtain ⟨⟨⟨⟨rfl, rfl⟩, rfl⟩, rfl⟩, rfl⟩ := hall
          have hRI : wrnRdI s = if (wrnR na (prioK p 3) nf nu nx ny nr ws).toList == s.toList then some ⟨na, prioK p 3, nf, nu, nx, ny, nr, ws⟩ else none := by
            rw [HRd.out]
            simp only [wrd7, HWK.out, HWD.out, wtR, Bool.and_self, Bool.true_and]
          have HRI := hid hRI
          have he5 := run_eq5 true true true true true
          simp only [Bool.and_self] at he5
          have hpi : I64 (prioK p 3) := by have := prioK_in p 3; unfold I64; omega
          have ctx : ∀ w', Pow w' → Calls Tryd.prog 12 #[.agg #[.int .i64 na, .int .i64 (prioK p 3), .int .i64 nf, .int .i64 nu, .int .i64 nx, .int .i64 ny, .int .i64 nr, .string ws]] w' fun e w'' => e = .returned (.string (wrnR na (prioK p 3) nf nu nx ny nr ws)) ∧ Below w'.heap.size w' w'' := fun w' hp => c_impl_WarningText na (prioK p 3) nf nu nx ny nr ws w' hwss HI.out.1 HI.out.2.1 HI.out.2.2.1 HI.out.2.2.2.2.1 HI.out.2.2.2.2.2 HI.out.2.2.2.1 hp
          clear hRI
          cases hq : ((wrnR na (prioK p 3) nf nu nx ny nr ws).toList == s.toList)
          · have hq2 : ((wrnR na (prioK p 3) nf nu nx ny nr ws).toList != s.toList) = true := by simp [bne, hq]
            have HR := hid (show wrnRdI s = none by rw [HRI.out, hq]; rfl)
            go_wp2_with (go_at_call 12; refine (ctx _ (hrd.at hBQ).pow).mono ?_; rintro e w8 ⟨rfl, hb8⟩; have hz8 := hb8.size; have hg8 := HGQ.out.below hb8; have g0' := hg8.cell 0 rfl; have g1 := hg8.cell 1 rfl; have g2 := hg8.cell 2 rfl; have g3 := hg8.cell 3 rfl; have g4 := hg8.cell 4 rfl; have g5 := hg8.cell 5 rfl; have g6 := hg8.cell 6 rfl; have g7 := hg8.cell 7 rfl; have fg8 := hg8.fr; have hl8 := hg8.lt)
            refine bodyPost_ret (v := .tuple #[.agg #[.int .i64 0, .int .i64 0, .int .i64 0, .int .i64 0, .int .i64 0, .int .i64 0, .int .i64 0, .string ⟨#[]⟩], .bool false]) (by simp [results, Tryd.results14, go_sem, *]) rfl (wrnPost_none (by (repeat' (first | (with_reducible exact Below.refl _ _) | (with_reducible refine Below.alloc ?_ ?_ _) | (with_reducible refine Below.drew ?_) | (with_reducible refine below_drewN ?_ _) | (with_reducible refine Below.setCell ?_ ?_ _) | (with_reducible refine below_via ‹_› ?_ ?_) | (with_reducible refine below_grow ?_ ?_ _ _) | omega | (simp; done) | (simp; omega)))) HR.out)
          · have hq2 : ((wrnR na (prioK p 3) nf nu nx ny nr ws).toList != s.toList) = false := by simp [bne, hq]
            have HR := hid (show wrnRdI s = some ⟨na, prioK p 3, nf, nu, nx, ny, nr, ws⟩ by rw [HRI.out, hq]; rfl)
            go_wp2_with (go_at_call 12; refine (ctx _ (hrd.at hBQ).pow).mono ?_; rintro e w8 ⟨rfl, hb8⟩; have hz8 := hb8.size; have hg8 := HGQ.out.below hb8; have g0' := hg8.cell 0 rfl; have g1 := hg8.cell 1 rfl; have g2 := hg8.cell 2 rfl; have g3 := hg8.cell 3 rfl; have g4 := hg8.cell 4 rfl; have g5 := hg8.cell 5 rfl; have g6 := hg8.cell 6 rfl; have g7 := hg8.cell 7 rfl; have fg8 := hg8.fr; have hl8 := hg8.lt; have hx8 := HBJ.out.below hb8; have z0 := hx8.cell 0 rfl; have z1 := hx8.cell 1 rfl; have z2 := hx8.cell 2 rfl; have z3 := hx8.cell 3 rfl; have z4 := hx8.cell 4 rfl; have z5 := hx8.cell 5 rfl; have z6 := hx8.cell 6 rfl; have z7 := hx8.cell 7 rfl)
            refine bodyPost_ret (v := .tuple #[.agg #[.int .i64 na, .int .i64 (prioK p 3), .int .i64 nf, .int .i64 nu, .int .i64 nx, .int .i64 ny, .int .i64 nr, .string ws], .bool true]) (by simp [results, Tryd.results14, go_sem, *]) rfl (wrnPost_some (by (repeat' (first | (with_reducible exact Below.refl _ _) | (with_reducible refine Below.alloc ?_ ?_ _) | (with_reducible refine Below.drew ?_) | (with_reducible refine below_drewN ?_ _) | (with_reducible refine Below.setCell ?_ ?_ _) | (with_reducible refine below_via ‹_› ?_ ?_) | (with_reducible refine below_grow ?_ ?_ _ _) | omega | (simp; done) | (simp; omega)))) HR.out)
def wrnVd (s : ByteArray) : WarningD := (wrnRd s).getD zWrn
def wrnOk (s : ByteArray) : Bool := (wrnRd s).isSome
theorem c_spec_ReadWarning' (s : ByteArray) (w : World) (hs : (s.size : Int) ≤ 1048576) : Calls Tryd.prog 13 #[.string s] w fun e w' => e = .returned (.tuple #[.agg #[.int .i64 (wrnVd s).fNumber, .int .i64 (wrnVd s).fPriority, .int .i64 (wrnVd s).fFrom, .int .i64 (wrnVd s).fUntil, .int .i64 (wrnVd s).fAtX, .int .i64 (wrnVd s).fAtY, .int .i64 (wrnVd s).fRadius, .string (wrnVd s).fWords], .bool (wrnOk s)]) ∧ Below w.heap.size w w' := (c_spec_ReadWarning s w hs).mono fun e w' h => ⟨h.2, h.1⟩
theorem c_impl_ReadWarning' (s : ByteArray) (w : World) (hs : (s.size : Int) ≤ 1048576) (hrd : Rd w) : Calls Tryd.prog 14 #[.string s] w fun e w' => e = .returned (.tuple #[.agg #[.int .i64 (wrnVd s).fNumber, .int .i64 (wrnVd s).fPriority, .int .i64 (wrnVd s).fFrom, .int .i64 (wrnVd s).fUntil, .int .i64 (wrnVd s).fAtX, .int .i64 (wrnVd s).fAtY, .int .i64 (wrnVd s).fRadius, .string (wrnVd s).fWords], .bool (wrnOk s)]) ∧ Below w.heap.size w w' := (c_impl_ReadWarning s w hs hrd).mono fun e w' h => ⟨h.2, h.1⟩
end Go.Proofs.YtocpgnpdnoidnaaDoor
