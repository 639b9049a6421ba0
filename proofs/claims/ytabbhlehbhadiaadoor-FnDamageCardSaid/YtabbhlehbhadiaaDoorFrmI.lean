/- A frame of the archive's bytes, the program's walk. Printed by wip/mkfrmi.py. -/
import Derived.Test.YtabbhlehbhadiaaDoorFrmT
import Derived.Test.YtabbhlehbhadiaaDoorReadD
namespace Go.Proofs.YtabbhlehbhadiaaDoor
open Go.RowKit Go.Sort
set_option linter.unusedVariables false
set_option maxRecDepth 100000

theorem data_len (s : ByteArray) : s.data.toList.length = s.size := by simp
/-! ### the first line's number -/
def CntP (o : Option Nat) (w : World) (e : Ending) (w' : World) : Prop := Below w.heap.size w w' ∧ ∃ n : Int, e = .returned (.tuple #[.int .i64 n, .bool o.isSome]) ∧ ∀ m, o = some m → n = m
theorem cnt_none {o : Option Nat} {w w' : World} {e : Ending} (h : CntP o w e w') (ho : o = none) : Below w.heap.size w w' ∧ ∃ n : Int, e = .returned (.tuple #[.int .i64 n, .bool false]) := by
  obtain ⟨h1, n, h2, -⟩ := h
  rw [ho] at h2; exact ⟨h1, n, h2⟩
theorem cnt_some {o : Option Nat} {w w' : World} {e : Ending} {m : Nat} (h : CntP o w e w') (ho : o = some m) : Below w.heap.size w w' ∧ e = .returned (.tuple #[.int .i64 (m : Int), .bool true]) := by
  obtain ⟨h1, n, h2, h3⟩ := h
  have h4 := h3 m ho
  rw [ho, h4] at h2; exact ⟨h1, h2⟩
theorem cntP_none {o : Option Nat} {w w' : World} {n : Int} (hb : Below w.heap.size w w') (ho : o = none) : CntP o w (.returned (.tuple #[.int .i64 n, .bool false])) w' := by
  subst ho; exact ⟨hb, n, rfl, fun m h => by cases h⟩
theorem cntP_some {o : Option Nat} {w w' : World} {m : Nat} (hb : Below w.heap.size w w') (ho : o = some m) : CntP o w (.returned (.tuple #[.int .i64 (m : Int), .bool true])) w' := by
  subst ho; exact ⟨hb, m, rfl, fun k h => by injection h with h; subst h; rfl⟩
theorem trimP_len (l p : List UInt8) : (Lib.trimPrefix l p).length ≤ l.length := by
  unfold Lib.trimPrefix; split
  · rw [List.length_drop]; omega
  · exact Nat.le_refl _
set_option maxHeartbeats 1000000 in
theorem c_readCount (s : ByteArray) (w : World) (hs : (s.size : Int) ≤ 1048576) (hr : Rd w) :
    Calls Tryd.prog 30 #[.string s] w (CntP (hdL s.data.toList) w) := by
  rw [← hdI_eq]
  have ct := Tryd.strings_CutPrefix s ⟨#[97, 114, 99, 104, 105, 118, 101, 32]⟩ w
  have hd : (⟨#[97, 114, 99, 104, 105, 118, 101, 32]⟩ : ByteArray).data.toList = arcW ++ [32] := rfl
  rw [hd] at ct
  have hb1 : (⟨(Lib.trimPrefix s.data.toList (arcW ++ [32])).toArray⟩ : ByteArray) = bs (Lib.trimPrefix s.data.toList (arcW ++ [32])) := rfl
  rw [hb1] at ct
  obtain ⟨tr, htr⟩ : ∃ tr, tr = bs (Lib.trimPrefix s.data.toList (arcW ++ [32])) := ⟨_, rfl⟩
  have hts : (tr.size : Int) ≤ 1048576 := by
    have := trimP_len s.data.toList (arcW ++ [32])
    rw [data_len] at this
    rw [htr, bs_size]; omega
  obtain ⟨p, hp⟩ : ∃ p, p = Lib.hasPrefix s.data.toList (arcW ++ [32]) := ⟨_, rfl⟩
  have hI : hdI s.data.toList = if p then hdN (numB tr.data.toList) (numV tr.data.toList) else none := by rw [hdI, htr, bs_list, ← hp]
  rw [← htr, ← hp] at ct
  have cr := fun w' h => c_ReadDecimal tr w' hts h
  obtain ⟨n, hn⟩ : ∃ n, n = numV tr.data.toList := ⟨_, rfl⟩
  obtain ⟨t, ht⟩ : ∃ t, t = numB tr.data.toList := ⟨_, rfl⟩
  rw [← hn, ← ht] at cr hI
  have HI := hid hI
  clear hd hb1 htr hp hI hn ht
  cases p
  · have HR := hid (show hdI s.data.toList = none from HI.out)
    go_enter Tryd.func30, Tryd.ntmps30
    go_wp2_with (first | (go_at_call 39; refine ct.mono ?_; rintro e w' ⟨rfl, rfl⟩) | (go_at_call 40; refine (cr _ (hr.at (by (repeat' (first | (with_reducible exact Below.refl _ _) | (with_reducible refine Below.alloc ?_ ?_ _) | (with_reducible refine Below.drew ?_) | (with_reducible refine below_drewN ?_ _) | (with_reducible refine Below.setCell ?_ ?_ _) | (with_reducible refine below_via ‹_› ?_ ?_) | (with_reducible refine below_grow ?_ ?_ _ _) | omega | (simp; done) | (simp; omega)))))).mono ?_; rintro e w1 ⟨rfl, hb⟩; have hz := hb.size) | (go_at_call 41; refine (c_within _ _ _ _).mono ?_; rintro e w' ⟨rfl, rfl⟩))
    go_ret2
    exact cntP_none (by (repeat' (first | (with_reducible exact Below.refl _ _) | (with_reducible refine Below.alloc ?_ ?_ _) | (with_reducible refine Below.drew ?_) | (with_reducible refine below_drewN ?_ _) | (with_reducible refine Below.setCell ?_ ?_ _) | (with_reducible refine below_via ‹_› ?_ ?_) | (with_reducible refine below_grow ?_ ?_ _ _) | omega | (simp; done) | (simp; omega)))) HR.out
  · cases t
    · have HR := hid (show hdI s.data.toList = none from HI.out)
      go_enter Tryd.func30, Tryd.ntmps30
      go_wp2_with (first | (go_at_call 39; refine ct.mono ?_; rintro e w' ⟨rfl, rfl⟩) | (go_at_call 40; refine (cr _ (hr.at (by (repeat' (first | (with_reducible exact Below.refl _ _) | (with_reducible refine Below.alloc ?_ ?_ _) | (with_reducible refine Below.drew ?_) | (with_reducible refine below_drewN ?_ _) | (with_reducible refine Below.setCell ?_ ?_ _) | (with_reducible refine below_via ‹_› ?_ ?_) | (with_reducible refine below_grow ?_ ?_ _ _) | omega | (simp; done) | (simp; omega)))))).mono ?_; rintro e w1 ⟨rfl, hb⟩; have hz := hb.size) | (go_at_call 41; refine (c_within _ _ _ _).mono ?_; rintro e w' ⟨rfl, rfl⟩))
      go_ret2
      exact cntP_none (by (repeat' (first | (with_reducible exact Below.refl _ _) | (with_reducible refine Below.alloc ?_ ?_ _) | (with_reducible refine Below.drew ?_) | (with_reducible refine below_drewN ?_ _) | (with_reducible refine Below.setCell ?_ ?_ _) | (with_reducible refine below_via ‹_› ?_ ?_) | (with_reducible refine below_grow ?_ ?_ _ _) | omega | (simp; done) | (simp; omega)))) HR.out
    · cases hi : inB n 0 40
      · have HR := hid (show hdI s.data.toList = none by rw [HI.out, hdN, hi]; rfl)
        go_enter Tryd.func30, Tryd.ntmps30
        go_wp2_with (first | (go_at_call 39; refine ct.mono ?_; rintro e w' ⟨rfl, rfl⟩) | (go_at_call 40; refine (cr _ (hr.at (by (repeat' (first | (with_reducible exact Below.refl _ _) | (with_reducible refine Below.alloc ?_ ?_ _) | (with_reducible refine Below.drew ?_) | (with_reducible refine below_drewN ?_ _) | (with_reducible refine Below.setCell ?_ ?_ _) | (with_reducible refine below_via ‹_› ?_ ?_) | (with_reducible refine below_grow ?_ ?_ _ _) | omega | (simp; done) | (simp; omega)))))).mono ?_; rintro e w1 ⟨rfl, hb⟩; have hz := hb.size) | (go_at_call 41; refine (c_within _ _ _ _).mono ?_; rintro e w' ⟨rfl, rfl⟩))
        go_ret2
        exact cntP_none (by (repeat' (first | (with_reducible exact Below.refl _ _) | (with_reducible refine Below.alloc ?_ ?_ _) | (with_reducible refine Below.drew ?_) | (with_reducible refine below_drewN ?_ _) | (with_reducible refine Below.setCell ?_ ?_ _) | (with_reducible refine below_via ‹_› ?_ ?_) | (with_reducible refine below_grow ?_ ?_ _ _) | omega | (simp; done) | (simp; omega)))) HR.out
      · have hnb := inB_true hi
        obtain ⟨m, rfl⟩ : ∃ m : Nat, n = m := ⟨n.toNat, by omega⟩
        have HR := hid (show hdI s.data.toList = some m by rw [HI.out, hdN, hi]; simp)
        go_enter Tryd.func30, Tryd.ntmps30
        go_wp2_with (first | (go_at_call 39; refine ct.mono ?_; rintro e w' ⟨rfl, rfl⟩) | (go_at_call 40; refine (cr _ (hr.at (by (repeat' (first | (with_reducible exact Below.refl _ _) | (with_reducible refine Below.alloc ?_ ?_ _) | (with_reducible refine Below.drew ?_) | (with_reducible refine below_drewN ?_ _) | (with_reducible refine Below.setCell ?_ ?_ _) | (with_reducible refine below_via ‹_› ?_ ?_) | (with_reducible refine below_grow ?_ ?_ _ _) | omega | (simp; done) | (simp; omega)))))).mono ?_; rintro e w1 ⟨rfl, hb⟩; have hz := hb.size) | (go_at_call 41; refine (c_within _ _ _ _).mono ?_; rintro e w' ⟨rfl, rfl⟩))
        go_ret2
        exact cntP_some (by (repeat' (first | (with_reducible exact Below.refl _ _) | (with_reducible refine Below.alloc ?_ ?_ _) | (with_reducible refine Below.drew ?_) | (with_reducible refine below_drewN ?_ _) | (with_reducible refine Below.setCell ?_ ?_ _) | (with_reducible refine below_via ‹_› ?_ ?_) | (with_reducible refine below_grow ?_ ?_ _ _) | omega | (simp; done) | (simp; omega)))) HR.out

/-! ### a frame -/
def friV (l : List UInt8) : Option FrD × Int → Value
  | (some f, _) => .tuple #[.agg #[.string f.it.fKey, .string f.it.fText], .int .i64 f.chk, .string (bs (l.drop f.used)), .int .i64 0]
  | (none, c) => .tuple #[.agg #[.string ⟨#[]⟩, .string ⟨#[]⟩], .int .i64 0, .string ⟨#[]⟩, .int .i64 c]
def FriP (l : List UInt8) (o : Option FrD × Int) (w : World) (e : Ending) (w' : World) : Prop := Below w.heap.size w w' ∧ e = .returned (friV l o)
theorem friP_none {l : List UInt8} {o : Option FrD × Int} {w w' : World} {c : Int} (hb : Below w.heap.size w w') (h : o = (none, c)) : FriP l o w (.returned (.tuple #[.agg #[.string ⟨#[]⟩, .string ⟨#[]⟩], .int .i64 0, .string ⟨#[]⟩, .int .i64 c])) w' := ⟨hb, by rw [h]; rfl⟩
theorem friP_some {l : List UInt8} {o : Option FrD × Int} {w w' : World} {f : FrD} {r : ByteArray} (hb : Below w.heap.size w w') (h : o = (some f, 0)) (h2 : r = bs (l.drop f.used)) : FriP l o w (.returned (.tuple #[.agg #[.string f.it.fKey, .string f.it.fText], .int .i64 f.chk, .string r, .int .i64 0])) w' := ⟨hb, by rw [h, h2]; rfl⟩
theorem fri_none {l : List UInt8} {o : Option FrD × Int} {w w' : World} {e : Ending} {c : Int} (h : FriP l o w e w') (ho : o = (none, c)) : Below w.heap.size w w' ∧ e = .returned (.tuple #[.agg #[.string ⟨#[]⟩, .string ⟨#[]⟩], .int .i64 0, .string ⟨#[]⟩, .int .i64 c]) := ⟨h.1, by have := h.2; rw [ho] at this; exact this⟩
theorem fri_some {l : List UInt8} {o : Option FrD × Int} {w w' : World} {e : Ending} {f : FrD} (h : FriP l o w e w') (ho : o = (some f, 0)) : Below w.heap.size w w' ∧ e = .returned (.tuple #[.agg #[.string f.it.fKey, .string f.it.fText], .int .i64 f.chk, .string (bs (l.drop f.used)), .int .i64 0]) := ⟨h.1, by have := h.2; rw [ho] at this; exact this⟩
theorem c_CutNl (s : ByteArray) (w : World) (hs : (s.size : Int) ≤ 1048576) (hr : Rd w) :
    Calls Tryd.prog 29 #[.string s, .string ⟨#[10]⟩] w fun e w' => (∃ v, e = .returned v ∧ (nlO s.data.toList = none → v = .tuple #[.string s, .string ⟨#[]⟩, .bool false]) ∧ ∀ j, nlO s.data.toList = some j → v = .tuple #[.string (s.extract 0 j), .string (s.extract (j + 1) s.size), .bool true]) ∧ Below w.heap.size w w' := by
  obtain ⟨m, hm⟩ := hr.mx
  refine (Tryd.strings_Cut s ⟨#[10]⟩ m w (by omega) hm).mono ?_
  rintro e w' ⟨rfl, n, rfl⟩
  have h10 : (⟨#[10]⟩ : ByteArray).data.toList = [10] := rfl
  refine ⟨⟨_, rfl, fun h => ?_, fun j h => ?_⟩, below_drewN (Below.refl _ _) n⟩
  · rw [h10, cut_nl_none h]
  · rw [h10, cut_nl_some h]
    have h1 := ext_bs s 0 j
    have h2 := ext_bs s (j + 1) s.size
    rw [List.drop_zero, Nat.sub_zero] at h1
    rw [List.take_of_length_le (by rw [List.length_drop, data_len]; omega)] at h2
    rw [h1, h2]; rfl
set_option maxHeartbeats 4000000 in
theorem c_readFrame (s : ByteArray) (w : World) (hs : (s.size : Int) ≤ 1048576) (hrd : Rd w) :
    Calls Tryd.prog 31 #[.string s] w (FriP s.data.toList (frL s.data.toList) w) := by
  have cl := fun w' h => c_CutNl s w' hs h
  cases hn : nlO s.data.toList with
  | none =>
    have HN := hid hn
    have HR := hid (frL_none hn)
    clear hn
    go_enter Tryd.func31, Tryd.ntmps31
    go_wp2_with fail
    refine (cl _ (hrd.at (by (repeat' (first | (with_reducible exact Below.refl _ _) | (with_reducible refine Below.alloc ?_ ?_ _) | (with_reducible refine Below.drew ?_) | (with_reducible refine below_drewN ?_ _) | (with_reducible refine Below.setCell ?_ ?_ _) | (with_reducible refine below_via ‹_› ?_ ?_) | (with_reducible refine below_grow ?_ ?_ _ _) | omega | (simp; done) | (simp; omega)))))).mono ?_
    rintro e w1 ⟨⟨v, rfl, hv, -⟩, hb1⟩
    have hv := hv HN.out
    subst hv
    have hz1 := hb1.size
    simp at hz1
    have hbk : Bk w1 w.heap.size 34 [.string ⟨#[]⟩, .string ⟨#[]⟩] := (Bk.new _ _ _).below hb1
    have b0 := hbk.cell 0 rfl
    have b1 := hbk.cell 1 rfl
    have fx := hbk.fr
    have hwx : w.heap.size < w1.heap.size := by omega
    clear cl
    go_wp2_with fail
    refine bodyPost_ret (v := .tuple #[.agg #[.string ⟨#[]⟩, .string ⟨#[]⟩], .int .i64 0, .string ⟨#[]⟩, .int .i64 11]) (by simp [results, Tryd.results31, go_sem, *]) rfl (friP_none (by (repeat' (first | (with_reducible exact Below.refl _ _) | (with_reducible refine Below.alloc ?_ ?_ _) | (with_reducible refine Below.drew ?_) | (with_reducible refine below_drewN ?_ _) | (with_reducible refine Below.setCell ?_ ?_ _) | (with_reducible refine below_via ‹_› ?_ ?_) | (with_reducible refine below_grow ?_ ?_ _ _) | omega | (simp; done) | (simp; omega)))) HR.out)
  | some j =>
    have HN := hid hn
    obtain ⟨hj, -, -⟩ := nlO_some hn
    have hj' : j < s.size := by rw [data_len] at hj; exact hj
    have hl0 : (s.extract 0 j).data.toList = s.data.toList.take j := by rw [ext_bs, bs_list]; simp
    obtain ⟨a0, ha0⟩ : ∃ a0, a0 = s.extract 0 j := ⟨_, rfl⟩
    rw [← ha0] at hl0
    have hsz : (a0.size : Int) ≤ 1048576 := by rw [ha0, ByteArray.size_extract]; omega
    have HA := hid ha0
    have hl1 : (s.extract (j + 1) s.size).data.toList = s.data.toList.drop (j + 1) := by rw [ext_bs, bs_list, List.take_of_length_le (by rw [List.length_drop, data_len]; omega)]
    obtain ⟨rs, hrs⟩ : ∃ rs, rs = s.extract (j + 1) s.size := ⟨_, rfl⟩
    rw [← hrs] at hl1
    have hrz : rs.size = s.size - (j + 1) := by rw [hrs, ByteArray.size_extract]; omega
    have HRS := hid hrs
    have hfr : frL s.data.toList = frW rs.data.toList (j + 1) (cutB 32 a0.data.toList) := by rw [frL_some hn, hl0, hl1]
    have HF := hid hfr
    have HL1 := hid hl1
    have csp := fun w' h => c_Split 32 a0 w' hsz h
    have hcs := cutB_size 32 a0
    have hrb : (rs.size : Int) ≤ 1048576 := by omega
    have HRZ := hid hrz
    clear hn ha0 hl0 hfr hj hrs hl1 hrz
    go_enter Tryd.func31, Tryd.ntmps31
    go_wp2_with fail
    refine (cl _ (hrd.at (by (repeat' (first | (with_reducible exact Below.refl _ _) | (with_reducible refine Below.alloc ?_ ?_ _) | (with_reducible refine Below.drew ?_) | (with_reducible refine below_drewN ?_ _) | (with_reducible refine Below.setCell ?_ ?_ _) | (with_reducible refine below_via ‹_› ?_ ?_) | (with_reducible refine below_grow ?_ ?_ _ _) | omega | (simp; done) | (simp; omega)))))).mono ?_
    rintro e w0 ⟨⟨v, rfl, -, hv⟩, hb0⟩
    have hv := hv j HN.out
    rw [← HA.out, ← HRS.out] at hv
    subst hv
    have hz0 := hb0.size
    simp at hz0
    clear cl
    go_wp2_with fail
    refine (csp _ (hrd.at (by (repeat' (first | (with_reducible exact Below.refl _ _) | (with_reducible refine Below.alloc ?_ ?_ _) | (with_reducible refine Below.drew ?_) | (with_reducible refine below_drewN ?_ _) | (with_reducible refine Below.setCell ?_ ?_ _) | (with_reducible refine below_via ‹_› ?_ ?_) | (with_reducible refine below_grow ?_ ?_ _ _) | omega | (simp; done) | (simp; omega)))))).mono ?_
    rintro e w1 ⟨v, rfl, hb1, hS1⟩
    have hz1 := hb1.size
    obtain ⟨ps, hps⟩ : ∃ ps, ps = cutB 32 a0.data.toList := ⟨_, rfl⟩
    rw [← hps] at hS1 hcs HF
    clear hps csp
    obtain ⟨ad, cap, rfl⟩ := hS1.1.form
    have hbk : Bk w1 w.heap.size 34 [.string ⟨#[]⟩, .string ⟨#[]⟩] := ((Bk.new _ _ _).below hb0).below hb1
    have b0 := hbk.cell 0 rfl
    have b1 := hbk.cell 1 rfl
    have fx := hbk.fr
    have hB1 : Below w.heap.size w w1 := by (repeat' (first | (with_reducible exact Below.refl _ _) | (with_reducible refine Below.alloc ?_ ?_ _) | (with_reducible refine Below.drew ?_) | (with_reducible refine below_drewN ?_ _) | (with_reducible refine Below.setCell ?_ ?_ _) | (with_reducible refine below_via ‹_› ?_ ?_) | (with_reducible refine below_grow ?_ ?_ _ _) | omega | (simp; done) | (simp; omega)))
    have hwx : w.heap.size < w1.heap.size := by omega
    by_cases h3 : ps.length = 3
    · obtain ⟨a, b, c, rfl⟩ := three_bytes h3
      obtain ⟨bb, off, rfl, hlo, hbb, hcl⟩ := cell_str hS1.1 rfl (k := 0) (by simp)
      have hbne : bb ≠ w.heap.size := by omega
      have d0 := hcl 0 (by simp)
      have d1 := hcl 1 (by simp)
      have d2 := hcl 2 (by simp)
      simp only [List.getElem_cons_zero, List.getElem_cons_succ, Nat.add_zero] at d0 d1 d2
      have hsa : (a.size : Int) ≤ 1048576 := by have := hcs a (by simp); omega
      have hsa2 : a.size ≤ maxLen := by unfold maxLen; omega
      have hsb : (b.size : Int) ≤ 1048576 := by have := hcs b (by simp); omega
      have hsc : (c.size : Int) ≤ 1048576 := by have := hcs c (by simp); omega
      have hz3 : (((3 : Nat) : Int) != 3) = false := rfl
      clear hS1 hcs hcl h3
      cases hna : nameB a
      · have HR := hid (show frL s.data.toList = (none, 9) by rw [HF.out, frW_three, hna]; rfl)
        go_wp2_with (first | (go_at_call 43; refine (c_IsName _ _ (by assumption)).mono ?_; rintro e w' ⟨rfl, rfl⟩))
        refine bodyPost_ret (v := .tuple #[.agg #[.string ⟨#[]⟩, .string ⟨#[]⟩], .int .i64 0, .string ⟨#[]⟩, .int .i64 9]) (by simp [results, Tryd.results31, go_sem, *]) rfl (friP_none (by (repeat' (first | (with_reducible exact Below.refl _ _) | (with_reducible refine Below.alloc ?_ ?_ _) | (with_reducible refine Below.drew ?_) | (with_reducible refine below_drewN ?_ _) | (with_reducible refine Below.setCell ?_ ?_ _) | (with_reducible refine below_via ‹_› ?_ ?_) | (with_reducible refine below_grow ?_ ?_ _ _) | omega | (simp; done) | (simp; omega)))) HR.out)
      · obtain ⟨x, hx⟩ : ∃ x, x = numV b.data.toList := ⟨_, rfl⟩
        obtain ⟨y, hy⟩ : ∃ y, y = numV c.data.toList := ⟨_, rfl⟩
        obtain ⟨t, ht⟩ : ∃ t, t = numB b.data.toList := ⟨_, rfl⟩
        obtain ⟨u, hu⟩ : ∃ u, u = numB c.data.toList := ⟨_, rfl⟩
        have cb := fun w' h => c_ReadDecimal b w' hsb h
        have cc := fun w' h => c_ReadDecimal c w' hsc h
        have hF1 : frL s.data.toList = frN a x y (t && u) rs.data.toList (j + 1) := by rw [HF.out, frW_three, hna, ← hx, ← hy, ← ht, ← hu]; rfl
        rw [← hx, ← ht] at cb
        rw [← hy, ← hu] at cc
        have HF1 := hid hF1
        have hbk2 := hid hbk
        clear hx hy ht hu hF1 b0 b1 fx hbk
        go_wp2_with (first | (go_at_call 43; refine (c_IsName _ _ (by assumption)).mono ?_; rintro e w' ⟨rfl, rfl⟩) | (go_at_call 40; fail))
        refine (cb _ (hrd.at (by (repeat' (first | (with_reducible exact Below.refl _ _) | (with_reducible refine Below.alloc ?_ ?_ _) | (with_reducible refine Below.drew ?_) | (with_reducible refine below_drewN ?_ _) | (with_reducible refine Below.setCell ?_ ?_ _) | (with_reducible refine below_via ‹_› ?_ ?_) | (with_reducible refine below_grow ?_ ?_ _ _) | omega | (simp; done) | (simp; omega)))))).mono ?_
        rintro e w2 ⟨rfl, hb2⟩
        have hz2 := hb2.size
        have e2 := below_cell hb2 hbb d2
        clear d2
        go_wp2_with fail
        refine (cc _ (hrd.at (by (repeat' (first | (with_reducible exact Below.refl _ _) | (with_reducible refine Below.alloc ?_ ?_ _) | (with_reducible refine Below.drew ?_) | (with_reducible refine below_drewN ?_ _) | (with_reducible refine Below.setCell ?_ ?_ _) | (with_reducible refine below_via ‹_› ?_ ?_) | (with_reducible refine below_grow ?_ ?_ _ _) | omega | (simp; done) | (simp; omega)))))).mono ?_
        rintro e w3 ⟨rfl, hb3⟩
        have hz3' := hb3.size
        have hbk : Bk w3 w.heap.size 34 [.string ⟨#[]⟩, .string ⟨#[]⟩] := (hbk2.out.below hb2).below hb3
        have b0 := hbk.cell 0 rfl
        have b1 := hbk.cell 1 rfl
        have fx := hbk.fr
        have hB3 : Below w.heap.size w w3 := by (repeat' (first | (with_reducible exact Below.refl _ _) | (with_reducible refine Below.alloc ?_ ?_ _) | (with_reducible refine Below.drew ?_) | (with_reducible refine below_drewN ?_ _) | (with_reducible refine Below.setCell ?_ ?_ _) | (with_reducible refine below_via ‹_› ?_ ?_) | (with_reducible refine below_grow ?_ ?_ _ _) | omega | (simp; done) | (simp; omega)))
        have hwx3 : w.heap.size < w3.heap.size := by omega
        have d0 := below_cell hb3 (by omega) (below_cell hb2 hbb d0)
        have hbb3 : bb < w3.heap.size := by omega
        clear cb cc d1 e2 hb0 hb1 hb2 hb3 hB1
        cases t
        · have HR := hid (show frL s.data.toList = (none, 9) by rw [HF1.out]; rfl)
          go_wp2_with (first | (go_at_call 41; refine (c_within _ _ _ _).mono ?_; rintro e w' ⟨rfl, rfl⟩))
          refine bodyPost_ret (v := .tuple #[.agg #[.string ⟨#[]⟩, .string ⟨#[]⟩], .int .i64 0, .string ⟨#[]⟩, .int .i64 9]) (by simp [results, Tryd.results31, go_sem, *]) rfl (friP_none (by (repeat' (first | (with_reducible exact Below.refl _ _) | (with_reducible refine Below.alloc ?_ ?_ _) | (with_reducible refine Below.drew ?_) | (with_reducible refine below_drewN ?_ _) | (with_reducible refine Below.setCell ?_ ?_ _) | (with_reducible refine below_via ‹_› ?_ ?_) | (with_reducible refine below_grow ?_ ?_ _ _) | omega | (simp; done) | (simp; omega)))) HR.out)
        · cases u
          · have HR := hid (show frL s.data.toList = (none, 9) by rw [HF1.out]; rfl)
            go_wp2_with (first | (go_at_call 41; refine (c_within _ _ _ _).mono ?_; rintro e w' ⟨rfl, rfl⟩))
            refine bodyPost_ret (v := .tuple #[.agg #[.string ⟨#[]⟩, .string ⟨#[]⟩], .int .i64 0, .string ⟨#[]⟩, .int .i64 9]) (by simp [results, Tryd.results31, go_sem, *]) rfl (friP_none (by (repeat' (first | (with_reducible exact Below.refl _ _) | (with_reducible refine Below.alloc ?_ ?_ _) | (with_reducible refine Below.drew ?_) | (with_reducible refine below_drewN ?_ _) | (with_reducible refine Below.setCell ?_ ?_ _) | (with_reducible refine below_via ‹_› ?_ ?_) | (with_reducible refine below_grow ?_ ?_ _ _) | omega | (simp; done) | (simp; omega)))) HR.out)
          · cases hi : inB x 0 400
            · have HR := hid (show frL s.data.toList = (none, 9) by rw [HF1.out]; exact frN_no2 hi)
              go_wp2_with (first | (go_at_call 41; refine (c_within _ _ _ _).mono ?_; rintro e w' ⟨rfl, rfl⟩))
              refine bodyPost_ret (v := .tuple #[.agg #[.string ⟨#[]⟩, .string ⟨#[]⟩], .int .i64 0, .string ⟨#[]⟩, .int .i64 9]) (by simp [results, Tryd.results31, go_sem, *]) rfl (friP_none (by (repeat' (first | (with_reducible exact Below.refl _ _) | (with_reducible refine Below.alloc ?_ ?_ _) | (with_reducible refine Below.drew ?_) | (with_reducible refine below_drewN ?_ _) | (with_reducible refine Below.setCell ?_ ?_ _) | (with_reducible refine below_via ‹_› ?_ ?_) | (with_reducible refine below_grow ?_ ?_ _ _) | omega | (simp; done) | (simp; omega)))) HR.out)
            · have hxb := inB_true hi
              obtain ⟨m, rfl⟩ : ∃ m : Nat, x = m := ⟨x.toNat, by omega⟩
              by_cases hy0 : y < 0
              · have HR := hid (show frL s.data.toList = (none, 9) by rw [HF1.out]; exact frN_no3 hy0)
                go_wp2_with (first | (go_at_call 41; refine (c_within _ _ _ _).mono ?_; rintro e w' ⟨rfl, rfl⟩))
                refine bodyPost_ret (v := .tuple #[.agg #[.string ⟨#[]⟩, .string ⟨#[]⟩], .int .i64 0, .string ⟨#[]⟩, .int .i64 9]) (by simp [results, Tryd.results31, go_sem, *]) rfl (friP_none (by (repeat' (first | (with_reducible exact Below.refl _ _) | (with_reducible refine Below.alloc ?_ ?_ _) | (with_reducible refine Below.drew ?_) | (with_reducible refine below_drewN ?_ _) | (with_reducible refine Below.setCell ?_ ?_ _) | (with_reducible refine below_via ‹_› ?_ ?_) | (with_reducible refine below_grow ?_ ?_ _ _) | omega | (simp; done) | (simp; omega)))) HR.out)
              · have HF2 := hid (show frL s.data.toList = frT a m y rs.data.toList (j + 1) by rw [HF1.out]; exact frN_go (by omega) (by omega))
                have hll := data_len rs
                by_cases htr : rs.size < m + 1
                · have HR := hid (show frL s.data.toList = (none, 11) by rw [HF2.out, frT, if_pos (by omega)])
                  have htI : (rs.size : Int) < (m : Int) + 1 := by omega
                  clear hll
                  go_wp2_with (first | (go_at_call 41; refine (c_within _ _ _ _).mono ?_; rintro e w' ⟨rfl, rfl⟩))
                  refine bodyPost_ret (v := .tuple #[.agg #[.string ⟨#[]⟩, .string ⟨#[]⟩], .int .i64 0, .string ⟨#[]⟩, .int .i64 11]) (by simp [results, Tryd.results31, go_sem, *]) rfl (friP_none (by (repeat' (first | (with_reducible exact Below.refl _ _) | (with_reducible refine Below.alloc ?_ ?_ _) | (with_reducible refine Below.drew ?_) | (with_reducible refine below_drewN ?_ _) | (with_reducible refine Below.setCell ?_ ?_ _) | (with_reducible refine below_via ‹_› ?_ ?_) | (with_reducible refine below_grow ?_ ?_ _ _) | omega | (simp; done) | (simp; omega)))) HR.out)
                · have htI : ¬ ((rs.size : Int) < (m : Int) + 1) := by omega
                  have hqm : m < rs.size := by omega
                  have hgr : rs.data.toList.getD m 0 = rs[m] := by have := drop_get rs 0 m (by omega); simpa using this
                  have hqmI : (m : Int) < rs.size := by omega
                  cases hnl : ((rs[m].toNat : Int) == 10)
                  · have hne : ¬ rs.data.toList.getD m 0 = 10 := by rw [hgr]; intro e; rw [e] at hnl; simp at hnl
                    have HR := hid (show frL s.data.toList = (none, 9) by rw [HF2.out, frT, if_neg (by omega), if_neg hne])
                    have hnl2 : ((rs[m].toNat : Int) != 10) = true := by simp [bne, hnl]
                    clear hll hgr hne
                    go_wp2_with (first | (go_at_call 41; refine (c_within _ _ _ _).mono ?_; rintro e w' ⟨rfl, rfl⟩))
                    refine bodyPost_ret (v := .tuple #[.agg #[.string ⟨#[]⟩, .string ⟨#[]⟩], .int .i64 0, .string ⟨#[]⟩, .int .i64 9]) (by simp [results, Tryd.results31, go_sem, *]) rfl (friP_none (by (repeat' (first | (with_reducible exact Below.refl _ _) | (with_reducible refine Below.alloc ?_ ?_ _) | (with_reducible refine Below.drew ?_) | (with_reducible refine below_drewN ?_ _) | (with_reducible refine Below.setCell ?_ ?_ _) | (with_reducible refine below_via ‹_› ?_ ?_) | (with_reducible refine below_grow ?_ ?_ _ _) | omega | (simp; done) | (simp; omega)))) HR.out)
                  · have heq : rs.data.toList.getD m 0 = 10 := by
                      rw [hgr]; have h1 : (rs[m].toNat : Int) = 10 := by simpa using hnl
                      exact UInt8.toNat_inj.1 (by have : (10 : UInt8).toNat = 10 := rfl
                                                  omega)
                    obtain ⟨tx, htx⟩ : ∃ tx, tx = rs.extract 0 m := ⟨_, rfl⟩
                    have htx2 : bs (rs.data.toList.take m) = tx := by rw [htx, ext_bs]; simp
                    have HO := hid (show frL s.data.toList = (some ⟨⟨a, tx⟩, y, j + 1 + m + 1⟩, 0) by rw [HF2.out, frT, if_neg (by omega), if_pos heq, htx2])
                    obtain ⟨nx, hnx⟩ : ∃ nx, nx = rs.extract (m + 1) rs.size := ⟨_, rfl⟩
                    have HNX := hid (show nx = bs (s.data.toList.drop (j + 1 + m + 1)) by
                      rw [hnx, ext_bs, List.take_of_length_le (by rw [List.length_drop, data_len]; omega), HL1.out, List.drop_drop]; congr 2)
                    have HTX := hid (And.intro htx hnx)
                    have hnl2 : ((rs[m].toNat : Int) != 10) = false := by simp [bne, hnl]
                    have hmN : m ≤ rs.size := by omega
                    have hmI : (m : Int) ≤ rs.size := by omega
                    have hm1 : m + 1 ≤ rs.size := by omega
                    have hm1I : (m : Int) + 1 ≤ rs.size := by omega
                    obtain ⟨g, hg⟩ : ∃ g, g = w.heap.size := ⟨_, rfl⟩
                    have k0 : ∀ w', Only g w3 w' → w'.cell? ⟨bb, off, none⟩ = some (.string a) := fun w' h => h.out.cell hbb3 (by omega) d0
                    have hgW : g < w3.heap.size := by omega
                    have HGE := hid hg
                    rw [← hg] at b0 b1 fx ⊢
                    clear hll hgr heq htx htx2 hbk hnx hg
                    go_wp2_with (first | (go_at_call 41; refine (c_within _ _ _ _).mono ?_; rintro e w' ⟨rfl, rfl⟩))
                    have hw1 : IntKind.i64.wrap ((m : Int) + 1) = (m : Int) + 1 := IntWalk.i64_in _ (by omega)
                    have hw2 : (0 : Int) ≤ (m : Int) + 1 := by omega
                    have hw3 : ((m : Int) + 1).toNat = m + 1 := by omega
                    go_region_held3 (fun w' => Only g w3 w') ((refine only_of ?_; (repeat' (first | (with_reducible exact Kept.refl _ _) | (with_reducible refine Kept.set ?_ _ _ rfl) | (with_reducible refine Kept.alloc' ?_ _) | (with_reducible refine Kept.drew ?_) | (with_reducible refine Kept.drewN ?_ _) | (with_reducible apply Kept.viaB; with_reducible assumption) | omega | (simp; done) | (simp; omega))))) (first | fail)
                    have hBk : Below w.heap.size w (((w3.setCell ⟨g, 0, none⟩ (.string a)).setCell ⟨g, 1, none⟩ (.string (rs.extract 0 m))).drew) := hB3.trans ((Only.out (by assumption)).below (by omega) (fun k hk => by have := HGE.out; omega))
                    have hBk2 := hBk
                    rw [← HTX.out.1] at hBk ⊢
                    rw [← HTX.out.2]
                    clear hBk2
                    go_wp2_with fail
                    refine bodyPost_ret (v := .tuple #[.agg #[.string a, .string tx], .int .i64 y, .string nx, .int .i64 0]) (by simp [results, Tryd.results31, go_sem, *]) rfl (friP_some (f := ⟨⟨a, tx⟩, y, j + 1 + m + 1⟩) hBk HO.out HNX.out)
    · have hz3 : ((ps.length : Int) != 3) = true := by simp; omega
      have HR := hid (HF.out.trans (frW_len h3))
      clear h3 hS1
      go_wp2_with fail
      refine bodyPost_ret (v := .tuple #[.agg #[.string ⟨#[]⟩, .string ⟨#[]⟩], .int .i64 0, .string ⟨#[]⟩, .int .i64 9]) (by simp [results, Tryd.results31, go_sem, *]) rfl (friP_none (by (repeat' (first | (with_reducible exact Below.refl _ _) | (with_reducible refine Below.alloc ?_ ?_ _) | (with_reducible refine Below.drew ?_) | (with_reducible refine below_drewN ?_ _) | (with_reducible refine Below.setCell ?_ ?_ _) | (with_reducible refine below_via ‹_› ?_ ?_) | (with_reducible refine below_grow ?_ ?_ _ _) | omega | (simp; done) | (simp; omega)))) HR.out)
end Go.Proofs.YtabbhlehbhadiaaDoor
