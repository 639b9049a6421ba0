/- A frame of the archive's bytes, the reference's walk. Printed by wip/mkfrm.py. -/
import Derived.Test.YtocpgnpdnoidnaaDoorFrmS
import Derived.Test.YtocpgnpdnoidnaaDoorDraw0
namespace Go.Proofs.YtocpgnpdnoidnaaDoor
open Go.RowKit Go.Sort
set_option linter.unusedVariables false
set_option maxRecDepth 100000

def frV (p : Nat) : Option FrD × Int → Value
  | (some f, _) => .tuple #[.agg #[.string f.it.fKey, .string f.it.fText], .bool (!badB f), .int .i64 ((p + f.used : Nat) : Int), .int .i64 0]
  | (none, c) => .tuple #[.agg #[.string ⟨#[]⟩, .string ⟨#[]⟩], .bool false, .int .i64 0, .int .i64 c]
def FrmP (p : Nat) (o : Option FrD × Int) (w : World) (e : Ending) (w' : World) : Prop := Below w.heap.size w w' ∧ e = .returned (frV p o)
theorem frmP_none {p : Nat} {o : Option FrD × Int} {w w' : World} {c : Int} (hb : Below w.heap.size w w') (h : o = (none, c)) : FrmP p o w (.returned (.tuple #[.agg #[.string ⟨#[]⟩, .string ⟨#[]⟩], .bool false, .int .i64 0, .int .i64 c])) w' := ⟨hb, by rw [h]; rfl⟩
theorem frmP_some {p : Nat} {o : Option FrD × Int} {w w' : World} {f : FrD} {b : Bool} {n : Int} (hb : Below w.heap.size w w') (h : o = (some f, 0)) (h2 : b = !badB f) (h3 : n = ((p + f.used : Nat) : Int)) : FrmP p o w (.returned (.tuple #[.agg #[.string f.it.fKey, .string f.it.fText], .bool b, .int .i64 n, .int .i64 0])) w' := ⟨hb, by rw [h, h2, h3]; rfl⟩
theorem frm_none {p : Nat} {o : Option FrD × Int} {w w' : World} {e : Ending} {c : Int} (h : FrmP p o w e w') (ho : o = (none, c)) : Below w.heap.size w w' ∧ e = .returned (.tuple #[.agg #[.string ⟨#[]⟩, .string ⟨#[]⟩], .bool false, .int .i64 0, .int .i64 c]) := ⟨h.1, by have := h.2; rw [ho] at this; exact this⟩
theorem frm_some {p : Nat} {o : Option FrD × Int} {w w' : World} {e : Ending} {f : FrD} (h : FrmP p o w e w') (ho : o = (some f, 0)) : Below w.heap.size w w' ∧ e = .returned (.tuple #[.agg #[.string f.it.fKey, .string f.it.fText], .bool (!badB f), .int .i64 ((p + f.used : Nat) : Int), .int .i64 0]) := ⟨h.1, by have := h.2; rw [ho] at this; exact this⟩
theorem frN_no1 {a : ByteArray} {n c : Int} {rest : List UInt8} {base : Nat} : frN a n c false rest base = (none, 9) := rfl
theorem frN_no2 {a : ByteArray} {n c : Int} {rest : List UInt8} {base : Nat} (h : inB n 0 400 = false) : frN a n c true rest base = (none, 9) := by simp [frN, h]
theorem frN_no3 {a : ByteArray} {n c : Int} {ok : Bool} {rest : List UInt8} {base : Nat} (h : c < 0) : frN a n c ok rest base = (none, 9) := by
  have : decide (0 ≤ c) = false := decide_eq_false (by omega)
  simp [frN, this]
theorem frN_go {a : ByteArray} {n : Nat} {c : Int} {rest : List UInt8} {base : Nat} (h : n ≤ 400) (hc : 0 ≤ c) : frN a n c true rest base = frT a n c rest base := by
  have h1 : inB (n : Int) 0 400 = true := inB_of (by omega) (by omega)
  have h2 : decide (0 ≤ c) = true := decide_eq_true hc
  rw [frN, h1, h2]; rfl
theorem frW_three {rest : List UInt8} {base : Nat} {a b c : ByteArray} : frW rest base [a, b, c] = if nameB a then frN a (numV b.data.toList) (numV c.data.toList) (numB b.data.toList && numB c.data.toList) rest base else (none, 9) := rfl
theorem drop_get (s : ByteArray) (q m : Nat) (h : q + m < s.size) : (s.data.toList.drop q).getD m 0 = s[q + m] := by
  rw [List.getD_eq_getElem?_getD, List.getElem?_drop, List.getElem?_eq_getElem (by simpa using h), Option.getD_some]; exact data_get s _ h
set_option maxHeartbeats 4000000 in
theorem c_l24Frame (s : ByteArray) (p : Nat) (w : World) (hs : (s.size : Int) ≤ 1048576) (hp : p ≤ s.size) :
    Calls Tryd.prog 50 #[.string s, .int .i64 p] w (FrmP p (frL (s.data.toList.drop p)) w) := by
  have cl := fun w' => c_l24Line s p w' hs hp
  have hpI : (p : Int) ≤ s.size := by omega
  cases hn : nlO (s.data.toList.drop p) with
  | none =>
    have HN := hid hn
    have HR := hid (frL_none hn)
    clear hn
    go_enter Tryd.func50, Tryd.ntmps50
    go_wp2_with fail
    refine (cl _).mono ?_
    intro e w1 hL
    obtain ⟨rfl, rfl⟩ := line_none hL HN.out
    clear hL cl
    go_wp2_with fail
    refine bodyPost_ret (v := .tuple #[.agg #[.string ⟨#[]⟩, .string ⟨#[]⟩], .bool false, .int .i64 0, .int .i64 11]) (by simp [results, Tryd.results50, go_sem, *]) rfl (frmP_none (by (repeat' (first | (with_reducible exact Below.refl _ _) | (with_reducible refine Below.alloc ?_ ?_ _) | (with_reducible refine Below.drew ?_) | (with_reducible refine below_drewN ?_ _) | (with_reducible refine Below.setCell ?_ ?_ _) | (with_reducible refine below_via ‹_› ?_ ?_) | (with_reducible refine below_grow ?_ ?_ _ _) | omega | (simp; done) | (simp; omega)))) HR.out)
  | some j =>
    have HN := hid hn
    obtain ⟨hj, -, -⟩ := nlO_some hn
    have hj' : p + j < s.size := by have := lst_len s p; omega
    have hl0 := line_list s p j
    obtain ⟨a0, ha0⟩ : ∃ a0, a0 = s.extract p (p + j) := ⟨_, rfl⟩
    rw [← ha0] at hl0
    have hsz : (a0.size : Int) ≤ 1048576 := by rw [ha0, ByteArray.size_extract]; omega
    have HA := hid ha0
    obtain ⟨q, hq⟩ : ∃ q, q = p + j + 1 := ⟨_, rfl⟩
    have hqs : q ≤ s.size := by omega
    have hfr : frL (s.data.toList.drop p) = frW (s.data.toList.drop q) (j + 1) (cutB 32 a0.data.toList) := by rw [frL_some hn, hl0, List.drop_drop, hq]; rfl
    have HF := hid hfr
    have HQ := hid hq
    have csp := fun w' => c_l01Split 32 a0 w' hsz
    have hcs := cutB_size 32 a0
    clear hn ha0 hl0 hfr hj hq
    go_enter Tryd.func50, Tryd.ntmps50
    go_wp2_with fail
    refine (cl _).mono ?_
    intro e w1 hL
    obtain ⟨rfl, rfl⟩ := line_some hL HN.out
    rw [← HA.out, ← HQ.out]
    clear hL cl
    go_wp2_with fail
    refine (csp _).mono ?_
    rintro e w1 ⟨v, rfl, hb1, hS1⟩
    have hz1 := hb1.size
    simp at hz1
    obtain ⟨ps, hps⟩ : ∃ ps, ps = cutB 32 a0.data.toList := ⟨_, rfl⟩
    rw [← hps] at hS1 hcs HF
    clear hps csp
    obtain ⟨ad, cap, rfl⟩ := hS1.1.form
    have hbk : Bk w1 w.heap.size 55 [.string ⟨#[]⟩, .string ⟨#[]⟩] := (Bk.new _ _ _).below hb1
    have b0 := hbk.cell 0 rfl
    have b1 := hbk.cell 1 rfl
    have fx := hbk.fr
    have hB1 : Below w.heap.size w w1 := by (repeat' (first | (with_reducible exact Below.refl _ _) | (with_reducible refine Below.alloc ?_ ?_ _) | (with_reducible refine Below.drew ?_) | (with_reducible refine below_drewN ?_ _) | (with_reducible refine Below.setCell ?_ ?_ _) | (with_reducible refine below_via ‹_› ?_ ?_) | (with_reducible refine below_grow ?_ ?_ _ _) | omega | (simp; done) | (simp; omega)))
    have hwx : w.heap.size < w1.heap.size := by omega
    by_cases h3 : ps.length = 3
    · obtain ⟨a, b, c, rfl⟩ := three_bytes h3
      obtain ⟨bb, off, rfl, hlo, hbb, hcl⟩ := cell_str hS1.1 rfl (k := 0) (by simp)
      have hbne : bb ≠ w.heap.size := by simp at hlo; omega
      have d0 := hcl 0 (by simp)
      have d1 := hcl 1 (by simp)
      have d2 := hcl 2 (by simp)
      simp only [List.getElem_cons_zero, List.getElem_cons_succ, Nat.add_zero] at d0 d1 d2
      have hsa : (a.size : Int) ≤ 1048576 := by have := hcs a (by simp); omega
      have hsa2 : a.size ≤ maxLen := by unfold maxLen; omega
      have hsb : (b.size : Int) ≤ 1048576 := by have := hcs b (by simp); omega
      have hsc : (c.size : Int) ≤ 1048576 := by have := hcs c (by simp); omega
      have hz3 : (((3 : Nat) : Int) != 3) = false := rfl
      clear hS1 hcs hcl h3
      cases hna : nameB a
      · have HR := hid (show frL (s.data.toList.drop p) = (none, 9) by rw [HF.out, frW_three, hna]; rfl)
        go_wp2_with (first | (go_at_call 91; refine (c_l01Name _ _ (by assumption)).mono ?_; rintro e w' ⟨rfl, rfl⟩))
        refine bodyPost_ret (v := .tuple #[.agg #[.string ⟨#[]⟩, .string ⟨#[]⟩], .bool false, .int .i64 0, .int .i64 9]) (by simp [results, Tryd.results50, go_sem, *]) rfl (frmP_none (by (repeat' (first | (with_reducible exact Below.refl _ _) | (with_reducible refine Below.alloc ?_ ?_ _) | (with_reducible refine Below.drew ?_) | (with_reducible refine below_drewN ?_ _) | (with_reducible refine Below.setCell ?_ ?_ _) | (with_reducible refine below_via ‹_› ?_ ?_) | (with_reducible refine below_grow ?_ ?_ _ _) | omega | (simp; done) | (simp; omega)))) HR.out)
      · obtain ⟨x, hx⟩ : ∃ x, x = numV b.data.toList := ⟨_, rfl⟩
        obtain ⟨y, hy⟩ : ∃ y, y = numV c.data.toList := ⟨_, rfl⟩
        obtain ⟨t, ht⟩ : ∃ t, t = numB b.data.toList := ⟨_, rfl⟩
        obtain ⟨u, hu⟩ : ∃ u, u = numB c.data.toList := ⟨_, rfl⟩
        have cb := fun w' => c_l01Number b w' hsb
        have cc := fun w' => c_l01Number c w' hsc
        have hF1 : frL (s.data.toList.drop p) = frN a x y (t && u) (s.data.toList.drop q) (j + 1) := by rw [HF.out, frW_three, hna, ← hx, ← hy, ← ht, ← hu]; rfl
        rw [← hx, ← ht] at cb
        rw [← hy, ← hu] at cc
        have HF1 := hid hF1
        have hnsz : (a.size : Int) ≤ 10 := by simp only [nameB, Bool.and_eq_true, decide_eq_true_eq] at hna; exact hna.1.1.2
        clear hx hy ht hu hF1
        go_wp2_with (first | (go_at_call 91; refine (c_l01Name _ _ (by assumption)).mono ?_; rintro e w' ⟨rfl, rfl⟩) | (go_at_call 83; fail))
        refine (cb _).mono ?_
        rintro e w' ⟨rfl, rfl⟩
        go_wp2_with fail
        refine (cc _).mono ?_
        rintro e w' ⟨rfl, rfl⟩
        clear cb cc
        cases t
        · have HR := hid (show frL (s.data.toList.drop p) = (none, 9) by rw [HF1.out]; rfl)
          go_wp2_with (first | (go_at_call 64; refine (c_l00In _ _ _ _).mono ?_; rintro e w' ⟨rfl, rfl⟩))
          refine bodyPost_ret (v := .tuple #[.agg #[.string ⟨#[]⟩, .string ⟨#[]⟩], .bool false, .int .i64 0, .int .i64 9]) (by simp [results, Tryd.results50, go_sem, *]) rfl (frmP_none (by (repeat' (first | (with_reducible exact Below.refl _ _) | (with_reducible refine Below.alloc ?_ ?_ _) | (with_reducible refine Below.drew ?_) | (with_reducible refine below_drewN ?_ _) | (with_reducible refine Below.setCell ?_ ?_ _) | (with_reducible refine below_via ‹_› ?_ ?_) | (with_reducible refine below_grow ?_ ?_ _ _) | omega | (simp; done) | (simp; omega)))) HR.out)
        · cases u
          · have HR := hid (show frL (s.data.toList.drop p) = (none, 9) by rw [HF1.out]; rfl)
            go_wp2_with (first | (go_at_call 64; refine (c_l00In _ _ _ _).mono ?_; rintro e w' ⟨rfl, rfl⟩))
            refine bodyPost_ret (v := .tuple #[.agg #[.string ⟨#[]⟩, .string ⟨#[]⟩], .bool false, .int .i64 0, .int .i64 9]) (by simp [results, Tryd.results50, go_sem, *]) rfl (frmP_none (by (repeat' (first | (with_reducible exact Below.refl _ _) | (with_reducible refine Below.alloc ?_ ?_ _) | (with_reducible refine Below.drew ?_) | (with_reducible refine below_drewN ?_ _) | (with_reducible refine Below.setCell ?_ ?_ _) | (with_reducible refine below_via ‹_› ?_ ?_) | (with_reducible refine below_grow ?_ ?_ _ _) | omega | (simp; done) | (simp; omega)))) HR.out)
          · cases hi : inB x 0 400
            · have HR := hid (show frL (s.data.toList.drop p) = (none, 9) by rw [HF1.out]; exact frN_no2 hi)
              go_wp2_with (first | (go_at_call 64; refine (c_l00In _ _ _ _).mono ?_; rintro e w' ⟨rfl, rfl⟩))
              refine bodyPost_ret (v := .tuple #[.agg #[.string ⟨#[]⟩, .string ⟨#[]⟩], .bool false, .int .i64 0, .int .i64 9]) (by simp [results, Tryd.results50, go_sem, *]) rfl (frmP_none (by (repeat' (first | (with_reducible exact Below.refl _ _) | (with_reducible refine Below.alloc ?_ ?_ _) | (with_reducible refine Below.drew ?_) | (with_reducible refine below_drewN ?_ _) | (with_reducible refine Below.setCell ?_ ?_ _) | (with_reducible refine below_via ‹_› ?_ ?_) | (with_reducible refine below_grow ?_ ?_ _ _) | omega | (simp; done) | (simp; omega)))) HR.out)
            · have hxb := inB_true hi
              obtain ⟨m, rfl⟩ : ∃ m : Nat, x = m := ⟨x.toNat, by omega⟩
              by_cases hy0 : y < 0
              · have HR := hid (show frL (s.data.toList.drop p) = (none, 9) by rw [HF1.out]; exact frN_no3 hy0)
                go_wp2_with (first | (go_at_call 64; refine (c_l00In _ _ _ _).mono ?_; rintro e w' ⟨rfl, rfl⟩))
                refine bodyPost_ret (v := .tuple #[.agg #[.string ⟨#[]⟩, .string ⟨#[]⟩], .bool false, .int .i64 0, .int .i64 9]) (by simp [results, Tryd.results50, go_sem, *]) rfl (frmP_none (by (repeat' (first | (with_reducible exact Below.refl _ _) | (with_reducible refine Below.alloc ?_ ?_ _) | (with_reducible refine Below.drew ?_) | (with_reducible refine below_drewN ?_ _) | (with_reducible refine Below.setCell ?_ ?_ _) | (with_reducible refine below_via ‹_› ?_ ?_) | (with_reducible refine below_grow ?_ ?_ _ _) | omega | (simp; done) | (simp; omega)))) HR.out)
              · have HF2 := hid (show frL (s.data.toList.drop p) = frT a m y (s.data.toList.drop q) (j + 1) by rw [HF1.out]; exact frN_go (by omega) (by omega))
                have hqI : (q : Int) ≤ s.size := by omega
                have hll := lst_len s q
                by_cases htr : s.size - q < m + 1
                · have HR := hid (show frL (s.data.toList.drop p) = (none, 11) by rw [HF2.out, frT, if_pos (by omega)])
                  have htI : (s.size : Int) - (q : Int) < (m : Int) + 1 := by omega
                  clear hll
                  go_wp2_with (first | (go_at_call 64; refine (c_l00In _ _ _ _).mono ?_; rintro e w' ⟨rfl, rfl⟩))
                  refine bodyPost_ret (v := .tuple #[.agg #[.string ⟨#[]⟩, .string ⟨#[]⟩], .bool false, .int .i64 0, .int .i64 11]) (by simp [results, Tryd.results50, go_sem, *]) rfl (frmP_none (by (repeat' (first | (with_reducible exact Below.refl _ _) | (with_reducible refine Below.alloc ?_ ?_ _) | (with_reducible refine Below.drew ?_) | (with_reducible refine below_drewN ?_ _) | (with_reducible refine Below.setCell ?_ ?_ _) | (with_reducible refine below_via ‹_› ?_ ?_) | (with_reducible refine below_grow ?_ ?_ _ _) | omega | (simp; done) | (simp; omega)))) HR.out)
                · have htI : ¬ ((s.size : Int) - (q : Int) < (m : Int) + 1) := by omega
                  have hqm : q + m < s.size := by omega
                  have hgd := drop_get s q m hqm
                  have hqmI : (q : Int) + (m : Int) < s.size := by omega
                  obtain ⟨r, hr⟩ : ∃ r, r = q + m := ⟨_, rfl⟩
                  have hrI : (q : Int) + (m : Int) = (r : Int) := by omega
                  have hrs : r < s.size := by omega
                  have hqr : (q : Int) ≤ (r : Int) := by omega
                  have hrsI : (r : Int) < s.size := by omega
                  have hgr : (s.data.toList.drop q).getD m 0 = s[r] := by subst hr; exact hgd
                  have HRR := hid hr
                  clear hgd hr
                  cases hnl : ((s[r].toNat : Int) == 10)
                  · have hne : ¬ (s.data.toList.drop q).getD m 0 = 10 := by rw [hgr]; intro e; rw [e] at hnl; simp at hnl
                    have HR := hid (show frL (s.data.toList.drop p) = (none, 9) by rw [HF2.out, frT, if_neg (by omega), if_neg hne])
                    have hnl2 : ((s[r].toNat : Int) != 10) = true := by simp [bne, hnl]
                    clear hll hgr hne
                    go_wp2_with (first | (go_at_call 64; refine (c_l00In _ _ _ _).mono ?_; rintro e w' ⟨rfl, rfl⟩))
                    refine bodyPost_ret (v := .tuple #[.agg #[.string ⟨#[]⟩, .string ⟨#[]⟩], .bool false, .int .i64 0, .int .i64 9]) (by simp [results, Tryd.results50, go_sem, *]) rfl (frmP_none (by (repeat' (first | (with_reducible exact Below.refl _ _) | (with_reducible refine Below.alloc ?_ ?_ _) | (with_reducible refine Below.drew ?_) | (with_reducible refine below_drewN ?_ _) | (with_reducible refine Below.setCell ?_ ?_ _) | (with_reducible refine below_via ‹_› ?_ ?_) | (with_reducible refine below_grow ?_ ?_ _ _) | omega | (simp; done) | (simp; omega)))) HR.out)
                  · have heq : (s.data.toList.drop q).getD m 0 = 10 := by
                      rw [hgr]; have h1 : (s[r].toNat : Int) = 10 := by simpa using hnl
                      exact UInt8.toNat_inj.1 (by have : (10 : UInt8).toNat = 10 := rfl
                                                  omega)
                    obtain ⟨tx, htx⟩ : ∃ tx, tx = s.extract q r := ⟨_, rfl⟩
                    have htx2 : bs ((s.data.toList.drop q).take m) = tx := by rw [htx, ext_bs]; congr 2; have := HRR.out; omega
                    have HO := hid (show frL (s.data.toList.drop p) = (some ⟨⟨a, tx⟩, y, j + 1 + m + 1⟩, 0) by rw [HF2.out, frT, if_neg (by omega), if_pos heq, htx2])
                    have htl : tx.size ≤ 1000 := by rw [htx, ByteArray.size_extract]; have := HRR.out; omega
                    have hal : a.size ≤ 1000 := by omega
                    have HTX := hid htx
                    have hrN : r ≤ s.size := by omega
                    have hqrN : q ≤ r := by have := HRR.out; omega
                    have hrI2 : (r : Int) ≤ s.size := by omega
                    have hnl2 : ((s[r].toNat : Int) != 10) = false := by simp [bne, hnl]
                    have k0 : ∀ w', Since w1 w' → w'.cell? ⟨bb, off, none⟩ = some (.string a) := fun w' h => below_cell h.out hbb d0
                    have HBK := hid hbk
                    have HNX := hid (show ((r : Int) + 1) = ((p + (j + 1 + m + 1) : Nat) : Int) by have := HRR.out; have := HQ.out; omega)
                    clear hll hgr heq htx htx2 b0 b1 hbk fx
                    go_wp2_with (first | (go_at_call 64; refine (c_l00In _ _ _ _).mono ?_; rintro e w' ⟨rfl, rfl⟩))
                    go_region_held3 (fun w' => Since w1 w') ((refine since_of ?_; (repeat' (first | (with_reducible exact Below.refl _ _) | (with_reducible refine Below.alloc ?_ ?_ _) | (with_reducible refine Below.drew ?_) | (with_reducible refine below_drewN ?_ _) | (with_reducible refine Below.setCell ?_ ?_ _) | (with_reducible refine below_via ‹_› ?_ ?_) | (with_reducible refine below_grow ?_ ?_ _ _) | omega | (simp; done) | (simp; omega))))) (first | fail)
                    obtain ⟨W2, hW2⟩ : ∃ z, z = (w1.alloc (Obj.cells #[.string a, .string (s.extract q r)] 55)).drew := ⟨_, rfl⟩
                    rw [← hW2]
                    rw [← HTX.out] at hW2
                    have hbx : Bk W2 w1.heap.size 55 [.string a, .string tx] := by rw [hW2]; exact (by (repeat' (first | (with_reducible exact Bk.new _ _ _) | (with_reducible refine Bk.new1 ?_; first | rfl | (simp; done) | omega) | (with_reducible assumption) | (with_reducible refine Bk.alloc ?_ _) | (with_reducible refine Bk.drew ?_) | (with_reducible refine Bk.drewN ?_ _) | (with_reducible refine Bk.other ?_ ?_ _) | (with_reducible apply Bk.drewBy; with_reducible assumption) | (with_reducible apply Bk.viaB; with_reducible assumption) | omega | (simp; done))))
                    have hbW : Bk W2 w.heap.size 55 [.string ⟨#[]⟩, .string ⟨#[]⟩] := by rw [hW2]; have := HBK.out; exact (by (repeat' (first | (with_reducible exact Bk.new _ _ _) | (with_reducible refine Bk.new1 ?_; first | rfl | (simp; done) | omega) | (with_reducible assumption) | (with_reducible refine Bk.alloc ?_ _) | (with_reducible refine Bk.drew ?_) | (with_reducible refine Bk.drewN ?_ _) | (with_reducible refine Bk.other ?_ ?_ _) | (with_reducible apply Bk.drewBy; with_reducible assumption) | (with_reducible apply Bk.viaB; with_reducible assumption) | omega | (simp; done))))
                    have hB2 : Below w.heap.size w W2 := by rw [hW2]; (repeat' (first | (with_reducible exact Below.refl _ _) | (with_reducible refine Below.alloc ?_ ?_ _) | (with_reducible refine Below.drew ?_) | (with_reducible refine below_drewN ?_ _) | (with_reducible refine Below.setCell ?_ ?_ _) | (with_reducible refine below_via ‹_› ?_ ?_) | (with_reducible refine below_grow ?_ ?_ _ _) | omega | (simp; done) | (simp; omega)))
                    have hz2 : w1.heap.size < W2.heap.size := by rw [hW2]; simp
                    have x0 := hbx.cell 0 rfl
                    have x1 := hbx.cell 1 rfl
                    have b0 := hbW.cell 0 rfl
                    have b1 := hbW.cell 1 rfl
                    have fw := hbW.fr
                    have fx := hbx.fr
                    obtain ⟨g, hg⟩ : ∃ g, g = w.heap.size := ⟨_, rfl⟩
                    have hgx : w1.heap.size ≠ g := by omega
                    have g0 : ∀ w', Only g W2 w' → w'.cell? ⟨w1.heap.size, 0, none⟩ = some (.string a) := fun w' h => h.cell hbx hgx rfl
                    have g1 : ∀ w', Only g W2 w' → w'.cell? ⟨w1.heap.size, 1, none⟩ = some (.string tx) := fun w' h => h.cell hbx hgx rfl
                    have ck := fun w' (h : Only g W2 w') => c_l24Check w1.heap.size 0 a tx w' (Nat.lt_of_lt_of_le hz2 h.out.size) hal htl (g0 w' h) (g1 w' h)
                    have HW2 := hid (show ∀ w', Since W2 w' → Bk w' g 55 [.string ⟨#[]⟩, .string ⟨#[]⟩] from fun w' h => by rw [hg]; exact hbW.below h.out)
                    have G0 := hid g0
                    have G1 := hid g1
                    have hgW : g < W2.heap.size := by omega
                    rw [← hg] at b0 b1 fw ⊢
                    have HGE := hid hg
                    clear hW2 k0 hbx hbW hg
                    go_wp2_with fail
                    go_region_held3 (fun w' => Only g W2 w') ((refine only_of ?_; (repeat' (first | (with_reducible exact Kept.refl _ _) | (with_reducible refine Kept.set ?_ _ _ rfl) | (with_reducible refine Kept.alloc' ?_ _) | (with_reducible refine Kept.drew ?_) | (with_reducible refine Kept.drewN ?_ _) | (with_reducible apply Kept.viaB; with_reducible assumption) | omega | (simp; done) | (simp; omega))))) (first | (go_at_call 92; refine (ck _ (by refine only_of ?_; (repeat' (first | (with_reducible exact Kept.refl _ _) | (with_reducible refine Kept.set ?_ _ _ rfl) | (with_reducible refine Kept.alloc' ?_ _) | (with_reducible refine Kept.drew ?_) | (with_reducible refine Kept.drewN ?_ _) | (with_reducible apply Kept.viaB; with_reducible assumption) | omega | (simp; done) | (simp; omega))))).mono ?_; rintro e w3 ⟨rfl, hb3⟩; have hO3 : Only g W2 w3 := (by refine only_of ?_; (repeat' (first | (with_reducible exact Kept.refl _ _) | (with_reducible refine Kept.set ?_ _ _ rfl) | (with_reducible refine Kept.alloc' ?_ _) | (with_reducible refine Kept.drew ?_) | (with_reducible refine Kept.drewN ?_ _) | (with_reducible apply Kept.viaB; with_reducible assumption) | omega | (simp; done) | (simp; omega)))); have y0 := G0.out w3 hO3; have y1 := G1.out w3 hO3; have hz3 : g < w3.heap.size := (by have := hO3.out.size; omega); (try have hS3 : Since W2 w3 := (by refine since_of ?_; (repeat' (first | (with_reducible exact Below.refl _ _) | (with_reducible refine Below.alloc ?_ ?_ _) | (with_reducible refine Below.drew ?_) | (with_reducible refine below_drewN ?_ _) | (with_reducible refine Below.setCell ?_ ?_ _) | (with_reducible refine below_via ‹_› ?_ ?_) | (with_reducible refine below_grow ?_ ?_ _ _) | omega | (simp; done) | (simp; omega))))); (try have u0 := (HW2.out w3 hS3).cell 0 rfl); (try have u1 := (HW2.out w3 hS3).cell 1 rfl); (try have fw3 := (HW2.out w3 hS3).fr)) | fail)
                    have hwr : IntKind.i64.wrap ((r : Int) + 1) = (r : Int) + 1 := IntWalk.i64_in _ (by omega)
                    have hBk : Below w.heap.size w ((w3.setCell ⟨g, 0, none⟩ (.string a)).setCell ⟨g, 1, none⟩ (.string tx)) := hB2.trans ((Only.out (by assumption)).below (by omega) (fun k hk => by have := HGE.out; omega))
                    go_wp2_with fail
                    refine bodyPost_ret (v := .tuple #[.agg #[.string a, .string tx], .bool (chkV a tx == y), .int .i64 ((r : Int) + 1), .int .i64 0]) (by simp [results, Tryd.results50, go_sem, *]) rfl (frmP_some (f := ⟨⟨a, tx⟩, y, j + 1 + m + 1⟩) hBk HO.out (by simp only [badB, bne, Bool.not_not]; exact Bool.beq_comm) HNX.out)
    · have hz3 : ((ps.length : Int) != 3) = true := by simp; omega
      have HR := hid (HF.out.trans (frW_len h3))
      clear h3 hS1
      go_wp2_with fail
      refine bodyPost_ret (v := .tuple #[.agg #[.string ⟨#[]⟩, .string ⟨#[]⟩], .bool false, .int .i64 0, .int .i64 9]) (by simp [results, Tryd.results50, go_sem, *]) rfl (frmP_none (by (repeat' (first | (with_reducible exact Below.refl _ _) | (with_reducible refine Below.alloc ?_ ?_ _) | (with_reducible refine Below.drew ?_) | (with_reducible refine below_drewN ?_ _) | (with_reducible refine Below.setCell ?_ ?_ _) | (with_reducible refine below_via ‹_› ?_ ?_) | (with_reducible refine below_grow ?_ ?_ _ _) | omega | (simp; done) | (simp; omega)))) HR.out)
end Go.Proofs.YtocpgnpdnoidnaaDoor
