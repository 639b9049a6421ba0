/- A work read, both sides. Printed by wip/mkreadwork.py. -/
import Derived.Test.YtfnfkpmkppkleaaDoorPointRd
import Derived.Test.YtfnfkpmkppkleaaDoorWorkT
import Derived.Deep.RegionHeld3
namespace Go.Proofs.YtfnfkpmkppkleaaDoor
open Go.RowKit Go.Sort
set_option linter.unusedVariables false
set_option maxRecDepth 100000

abbrev WorkC := ByteArray → Int → Int → Int → Int → Int → Int → Bool
def work4 (c : WorkC) (a : ByteArray) (x y : Int) : List Int → Option WorkD
  | [l, m, f, u] => if c a x y l m f u then some ⟨a, x, y, l, m, f, u⟩ else none
  | _ => none
def work3 (c : WorkC) : List ByteArray → Option WorkD
  | [a, p, b] => if ptB p.data.toList && rdB b.data.toList then work4 c a (ptX p.data.toList) (ptY p.data.toList) (rdX b.data.toList) else none
  | _ => none
theorem four_of {xs : List Int} (h : xs.length = 4) : ∃ a b c d, xs = [a, b, c, d] := by
  match xs, h with
  | [a, b, c, d], _ => exact ⟨a, b, c, d, rfl⟩
theorem three_ofB {xs : List ByteArray} (h : xs.length = 3) : ∃ a b c, xs = [a, b, c] := by
  match xs, h with
  | [a, b, c], _ => exact ⟨a, b, c, rfl⟩
theorem work4_len {c : WorkC} {a : ByteArray} {x y : Int} {xs : List Int} (h : xs.length ≠ 4) : work4 c a x y xs = none := by
  match xs, h with
  | [], _ => rfl
  | [_], _ => rfl
  | [_, _], _ => rfl
  | [_, _, _], _ => rfl
  | [_, _, _, _], h => exact absurd rfl h
  | _ :: _ :: _ :: _ :: _ :: _, _ => rfl
theorem work3_len {c : WorkC} {ps : List ByteArray} (h : ps.length ≠ 3) : work3 c ps = none := by
  match ps, h with
  | [], _ => rfl
  | [_], _ => rfl
  | [_, _], _ => rfl
  | [_, _, _], h => exact absurd rfl h
  | _ :: _ :: _ :: _ :: _, _ => rfl
theorem work3_some {c : WorkC} {ps : List ByteArray} {d : WorkD} (h : work3 c ps = some d) :
    ∃ p b, ps = [d.fName, p, b] ∧ (ptB p.data.toList = true ∧ ptX p.data.toList = d.fAtX ∧ ptY p.data.toList = d.fAtY) ∧ (rdB b.data.toList = true ∧ rdX b.data.toList = [d.fLoad, d.fMinutes, d.fFrom, d.fUntil]) ∧ c d.fName d.fAtX d.fAtY d.fLoad d.fMinutes d.fFrom d.fUntil = true := by
  by_cases h3 : ps.length = 3
  · obtain ⟨a, p, b, rfl⟩ := three_ofB h3
    simp only [work3] at h
    cases hp : ptB p.data.toList with
    | false => rw [hp] at h; cases h
    | true =>
      cases hr : rdB b.data.toList with
      | false => rw [hp, hr] at h; cases h
      | true =>
        rw [hp, hr, Bool.and_self, if_pos rfl] at h
        by_cases h4 : (rdX b.data.toList).length = 4
        · obtain ⟨l, m, f, u, hx⟩ := four_of h4
          rw [hx] at h
          simp only [work4] at h
          split at h
          · rename_i hc
            injection h with h
            subst h
            exact ⟨p, b, rfl, ⟨hp, rfl, rfl⟩, ⟨hr, hx⟩, hc⟩
          · cases h
        · rw [work4_len h4] at h; cases h
  · rw [work3_len h3] at h; cases h
theorem work3_of {c : WorkC} {a p b : ByteArray} {x y l m f u : Int} (hp : ptB p.data.toList = true ∧ ptX p.data.toList = x ∧ ptY p.data.toList = y) (hr : rdB b.data.toList = true) (hx : rdX b.data.toList = [l, m, f, u]) (hc : c a x y l m f u = true) : work3 c [a, p, b] = some ⟨a, x, y, l, m, f, u⟩ := by
  simp only [work3, hp.1, hr, Bool.and_self, if_true, hx, hp.2.1, hp.2.2, work4, hc]
def workRd (s : ByteArray) : Option WorkD := work3 workB (cutB 32 s.data.toList)
def workEq (s : ByteArray) : WorkC := fun a x y l m f u => (workR a x y l m f u).toList == s.toList
def workRdI (s : ByteArray) : Option WorkD := work3 (workEq s) ((wordsL s.data.toList).map bs)
theorem pointL_no32 (x y : Int) : (32 : UInt8) ∉ pointL x y := by
  intro h
  rcases List.mem_append.1 h with h | h
  · exact itoa_no32 x h
  · rcases List.mem_cons.1 h with h | h
    · exact absurd h (by decide)
    · exact itoa_no32 y h
theorem pointL_ne (x y : Int) : pointL x y ≠ [] := by unfold pointL; simp
def lW (d : WorkD) : List UInt8 := listL [d.fLoad, d.fMinutes, d.fFrom, d.fUntil]
def okW (d : WorkD) : Bool := workB d.fName d.fAtX d.fAtY d.fLoad d.fMinutes d.fFrom d.fUntil
def txW (d : WorkD) : List UInt8 := workT d.fName d.fAtX d.fAtY d.fLoad d.fMinutes d.fFrom d.fUntil
theorem work_cut {s : ByteArray} {d : WorkD} (h1 : okW d = true) (h2 : txW d = s.data.toList) : cutAt 32 s.data.toList = [d.fName.data.toList, pointL d.fAtX d.fAtY, lW d] ∧ d.fName.data.toList ≠ [] := by
  have hn : nameB d.fName = true := by simp only [okW, workB, Bool.and_eq_true] at h1; exact h1.1.1.1.1.1
  obtain ⟨n1, n2⟩ := name_no32 hn
  refine ⟨?_, n2⟩
  rw [← h2, txW, workT, cutAt_app 32 _ _ n1, cutAt_app 32 _ _ (pointL_no32 _ _), cutAt_clean 32 _ (listL_no32 _)]; rfl
theorem work_back {d : WorkD} {c : WorkC} (h1 : okW d = true) (hc : c d.fName d.fAtX d.fAtY d.fLoad d.fMinutes d.fFrom d.fUntil = true) : work3 c [d.fName, bs (pointL d.fAtX d.fAtY), bs (lW d)] = some d := by
  obtain ⟨hfit, hpt, -⟩ := work_fits h1
  have hr := (rd_iff (lW d) [d.fLoad, d.fMinutes, d.fFrom, d.fUntil]).2 ⟨rfl, hfit⟩
  have hp := (pt_iff (pointL d.fAtX d.fAtY) d.fAtX d.fAtY).2 ⟨rfl, hpt⟩
  exact work3_of (by rw [bs_list]; exact hp) (by rw [bs_list]; exact hr.1) (by rw [bs_list]; exact hr.2) hc
theorem workRd_iff (s : ByteArray) (d : WorkD) : workRd s = some d ↔ (okW d = true ∧ txW d = s.data.toList) := by
  constructor
  · intro h
    obtain ⟨p, b, h1, h2, h3, h4⟩ := work3_some h
    have hl := ((rd_iff _ _).1 h3).1
    have hp := ((pt_iff _ _ _).1 h2).1
    refine ⟨h4, ?_⟩
    have hc : cutAt 32 s.data.toList = [d.fName.data.toList, p.data.toList, b.data.toList] := by
      have := congrArg (List.map fun x : ByteArray => x.data.toList) h1
      rw [cutB, List.map_map] at this
      rw [← List.map_id (cutAt 32 s.data.toList)]
      refine Eq.trans (List.map_congr_left fun p _ => ?_) this
      exact (bs_list p).symm
    have := jn_cutAt 32 s.data.toList
    rw [hc, jn_cons, jn_cons] at this
    rw [← this, txW, workT, ← hl, ← hp]
    simp [jn]
  · rintro ⟨h1, h2⟩
    have hc : cutB 32 s.data.toList = [d.fName, bs (pointL d.fAtX d.fAtY), bs (lW d)] := by
      rw [cutB, (work_cut h1 h2).1]
      simp [bs_self]
    rw [workRd, hc]
    exact work_back h1 h1
theorem workRdI_eq (s : ByteArray) : workRdI s = workRd s := by
  have key : ∀ d, workRdI s = some d ↔ workRd s = some d := by
    intro d
    rw [workRd_iff]
    constructor
    · intro h
      obtain ⟨p, b, h1, h2, h3, h4⟩ := work3_some h
      have he : workR d.fName d.fAtX d.fAtY d.fLoad d.fMinutes d.fFrom d.fUntil = s := by
        have := beq_iff_eq.1 h4
        rw [ByteArray.toList_eq, ByteArray.toList_eq] at this
        rw [← bs_self s, ← this, bs_self]
      cases hq : okW d with
      | false =>
        rw [workR, show workB d.fName d.fAtX d.fAtY d.fLoad d.fMinutes d.fFrom d.fUntil = false from hq] at he
        rw [← he] at h1
        have h5 := congrArg List.length h1
        exact absurd h5 (by show ¬ ((0 : Nat) = 3); decide)
      | true =>
        rw [workR, show workB d.fName d.fAtX d.fAtY d.fLoad d.fMinutes d.fFrom d.fUntil = true from hq, if_pos rfl] at he
        exact ⟨rfl, by rw [← he, bs_list]; rfl⟩
    · rintro ⟨h1, h2⟩
      obtain ⟨hc, hne⟩ := work_cut h1 h2
      have hw : (wordsL s.data.toList).map bs = [d.fName, bs (pointL d.fAtX d.fAtY), bs (lW d)] := by
        rw [wordsL, hc]
        have h3 : lW d ≠ [] := listL_ne _
        have h4 := pointL_ne d.fAtX d.fAtY
        have e : ∀ l : List UInt8, l ≠ [] → (!l.isEmpty) = true := fun l hl => by cases l with | nil => exact absurd rfl hl | cons _ _ => rfl
        simp only [List.filter_cons, e _ hne, e _ h3, e _ h4, if_true, List.filter_nil, List.map_cons, List.map_nil, bs_self]
      rw [workRdI, hw]
      refine work_back h1 ?_
      have h5 : workB d.fName d.fAtX d.fAtY d.fLoad d.fMinutes d.fFrom d.fUntil = true := h1
      have h6 : workT d.fName d.fAtX d.fAtY d.fLoad d.fMinutes d.fFrom d.fUntil = s.data.toList := h2
      rw [workEq, workR, h5, if_pos rfl, ByteArray.toList_eq, ByteArray.toList_eq, bs_list, h6]
      simp
  cases h : workRd s with
  | some d => exact (key d).2 h
  | none =>
    cases h2 : workRdI s with
    | none => rfl
    | some d => rw [(key d).1 h2] at h; cases h
def zWork : WorkD := ⟨⟨#[]⟩, 0, 0, 0, 0, 0, 0⟩
def workA (d : WorkD) : Value := .agg #[.string d.fName, .int .i64 d.fAtX, .int .i64 d.fAtY, .int .i64 d.fLoad, .int .i64 d.fMinutes, .int .i64 d.fFrom, .int .i64 d.fUntil]
def WorkPost (o : Option WorkD) (w : World) (e : Ending) (w' : World) : Prop :=
  e = .returned (.tuple #[workA (o.getD zWork), .bool o.isSome]) ∧ Below w.heap.size w w'
theorem workPost_none {o : Option WorkD} {w w' : World} (h : Below w.heap.size w w') (ho : o = none) : WorkPost o w (.returned (.tuple #[.agg #[.string ⟨#[]⟩, .int .i64 0, .int .i64 0, .int .i64 0, .int .i64 0, .int .i64 0, .int .i64 0], .bool false])) w' := by
  subst ho; exact ⟨rfl, h⟩
theorem workPost_some {o : Option WorkD} {w w' : World} (h : Below w.heap.size w w') {a : ByteArray} {x y l m f u : Int} (ho : o = some ⟨a, x, y, l, m, f, u⟩) : WorkPost o w (.returned (.tuple #[.agg #[.string a, .int .i64 x, .int .i64 y, .int .i64 l, .int .i64 m, .int .i64 f, .int .i64 u], .bool true])) w' := by
  subst ho; exact ⟨rfl, h⟩
set_option maxHeartbeats 8000000 in
theorem c_l25ReadWork (s : ByteArray) (w : World) (hs : (s.size : Int) ≤ 1048576) :
    Calls Tryd.prog 100 #[.string s] w (WorkPost (workRd s) w) := by
  have csp := fun w' => c_l01Split 32 s w' hs
  have hcs := cutB_size 32 s
  go_enter Tryd.func100, Tryd.ntmps100
  go_wp2_with fail
  refine (csp _).mono ?_
  rintro e w1 ⟨v, rfl, hb1, hS1⟩
  obtain ⟨hc1, hf1⟩ := bcell hb1; have hz1 := hb1.size; (try simp at hz1); (try have hy : w.heap.size < w1.heap.size := by omega); (try have hy : w.heap.size ≤ w1.heap.size := by omega); (try have hy : w.heap.size + 1 < w1.heap.size := by omega); (try have hy : w.heap.size + 1 ≤ w1.heap.size := by omega); (try have hy : w.heap.size + 2 < w1.heap.size := by omega); (try have hy : w.heap.size + 2 ≤ w1.heap.size := by omega)
  obtain ⟨xs, hxs⟩ : ∃ xs, xs = cutB 32 s.data.toList := ⟨_, rfl⟩
  rw [← hxs] at hS1 hcs
  have hR0 : workRd s = work3 workB xs := by rw [workRd, ← hxs]
  clear hxs
  obtain ⟨ad, cap, rfl⟩ := hS1.1.form
  have hbk : Bk w1 w.heap.size 37 [.string ⟨#[]⟩, .int .i64 0, .int .i64 0, .int .i64 0, .int .i64 0, .int .i64 0, .int .i64 0] := (Bk.new _ _ _).below hb1
  have fx := hbk.fr
  have b0 := hbk.cell 0 rfl
  have b1 := hbk.cell 1 rfl
  have b2 := hbk.cell 2 rfl
  have b3 := hbk.cell 3 rfl
  have b4 := hbk.cell 4 rfl
  have b5 := hbk.cell 5 rfl
  have b6 := hbk.cell 6 rfl
  have hwx : w.heap.size < w1.heap.size := by omega
  have hB1 : Below w.heap.size w w1 := by (repeat' (first | (with_reducible exact Below.refl _ _) | (with_reducible refine Below.alloc ?_ ?_ _) | (with_reducible refine Below.drew ?_) | (with_reducible refine below_drewN ?_ _) | (with_reducible refine Below.setCell ?_ ?_ _) | (with_reducible refine below_via ‹_› ?_ ?_) | (with_reducible refine below_grow ?_ ?_ _ _) | omega | (simp; done) | (simp; omega)))
  clear hc1 hf1
  by_cases h2 : xs.length = 3
  · obtain ⟨a, p, b, rfl⟩ := three_ofB h2
    have hsp : (p.size : Int) ≤ 1048576 := by have := hcs p (by simp); omega
    have hsb : (b.size : Int) ≤ 1048576 := by have := hcs b (by simp); omega
    have hsi : (a.size : Int) ≤ 1048576 := by have := hcs a (by simp); omega
    have hsa : a.size ≤ maxLen := by unfold maxLen; omega
    obtain ⟨bb, off, rfl, hlo, hbb, hcl⟩ := cell_str hS1.1 rfl (k := 0) (by simp)
    have hbne : bb ≠ w.heap.size := by simp at hlo; omega
    have c0 := hcl 0 (by simp)
    have c1 := hcl 1 (by simp)
    have c2 := hcl 2 (by simp)
    simp only [List.getElem_cons_zero, List.getElem_cons_succ, Nat.add_zero] at c0 c1 c2
    have hz : (((3 : Nat) : Int) != 3) = false := rfl
    obtain ⟨x, hx⟩ : ∃ x, x = ptX p.data.toList := ⟨_, rfl⟩
    obtain ⟨y, hy⟩ : ∃ y, y = ptY p.data.toList := ⟨_, rfl⟩
    obtain ⟨o, ho⟩ : ∃ o, o = ptB p.data.toList := ⟨_, rfl⟩
    have hix : I64 x ∧ I64 y := by rw [hx, hy]; exact pt_i64 _
    have cp : ∀ w', Calls Tryd.prog 154 #[.string p] w' fun e w'' => e = .returned (.tuple #[.agg #[.int .i64 x, .int .i64 y], .bool o]) ∧ Below w'.heap.size w' w'' := fun w' => by rw [hx, hy, ho]; exact c_l02Read p w' hsp
    have hR1 : workRd s = if o && rdB b.data.toList then work4 workB a x y (rdX b.data.toList) else none := by rw [hR0, hx, hy, ho]; rfl
    have HR0 := hid hR1
    clear hS1 hcs h2 hR0 hR1 hx hy ho hcl
    go_wp2_with fail
    refine (cp _).mono ?_
    rintro e w2 ⟨rfl, hb2⟩
    have hz2 := hb2.size
    have hB12 : Below w1.heap.size w1 w2 := hb2
    have e0 := below_cell hb2 hbb c0
    have e2 := below_cell hb2 hbb c2
    have hbk2 := hbk.below hb2
    have hbn2 : bb ≠ w2.heap.size := by omega
    have hbl2 : bb < w2.heap.size := by omega
    clear c0 c1 c2 hbk b0 b1 b2 b3 b4 b5 b6 fx
    have fx := hbk2.fr
    have b0 := hbk2.cell 0 rfl
    have b1 := hbk2.cell 1 rfl
    have b2 := hbk2.cell 2 rfl
    have b3 := hbk2.cell 3 rfl
    have b4 := hbk2.cell 4 rfl
    have b5 := hbk2.cell 5 rfl
    have b6 := hbk2.cell 6 rfl
    go_wp2_with fail
    refine (c_spec_ReadList b _ hsb).mono ?_
    rintro e w3 ⟨u0, rfl, hb3, hS3⟩
    have hz3 := hb3.size
    simp at hz3
    have hB23 : Below w2.heap.size w2 w3 := by (repeat' (first | (with_reducible exact Below.refl _ _) | (with_reducible refine Below.alloc ?_ ?_ _) | (with_reducible refine Below.drew ?_) | (with_reducible refine below_drewN ?_ _) | (with_reducible refine Below.setCell ?_ ?_ _) | (with_reducible refine below_via ‹_› ?_ ?_) | (with_reducible refine below_grow ?_ ?_ _ _) | omega | (simp; done) | (simp; omega)))
    have hB3 : Below w.heap.size w w3 := by (repeat' (first | (with_reducible exact Below.refl _ _) | (with_reducible refine Below.alloc ?_ ?_ _) | (with_reducible refine Below.drew ?_) | (with_reducible refine below_drewN ?_ _) | (with_reducible refine Below.setCell ?_ ?_ _) | (with_reducible refine below_via ‹_› ?_ ?_) | (with_reducible refine below_grow ?_ ?_ _ _) | omega | (simp; done) | (simp; omega)))
    have d0 := below_cell hB23 (by omega) e0
    have hbk3 := hbk2.below hB23
    have hbp : Bk w3 w2.heap.size 35 [.int .i64 x, .int .i64 y] := (Bk.new _ _ _).below hb3
    clear e0 e2 hbk2 b0 b1 b2 b3 b4 b5 b6 fx
    have fx := hbk3.fr
    have b0 := hbk3.cell 0 rfl
    have b1 := hbk3.cell 1 rfl
    have b2 := hbk3.cell 2 rfl
    have b3 := hbk3.cell 3 rfl
    have b4 := hbk3.cell 4 rfl
    have b5 := hbk3.cell 5 rfl
    have b6 := hbk3.cell 6 rfl
    have g0 := hbp.cell 0 rfl
    have g1 := hbp.cell 1 rfl
    have hR1 := HR0.out
    clear HR0
    have hxs3 := rdX_i64 (l := b.data.toList)
    obtain ⟨zs, hzs⟩ : ∃ zs, zs = rdX b.data.toList := ⟨_, rfl⟩
    rw [← hzs] at hS3 hxs3 hR1
    obtain ⟨adu, cpu, rfl⟩ := hS3.1.form
    clear hzs
    have hn1 : w.heap.size ≠ w3.heap.size := by omega
    have hn2 : w3.heap.size ≠ w.heap.size := by omega
    cases o
    · have HR := hid (show workRd s = none by rw [hR1]; rfl)
      clear hR1
      go_wp2_with fail
      refine bodyPost_ret (v := .tuple #[.agg #[.string ⟨#[]⟩, .int .i64 0, .int .i64 0, .int .i64 0, .int .i64 0, .int .i64 0, .int .i64 0], .bool false]) (by simp [results, Tryd.results100, go_sem, *]) rfl (workPost_none (by (repeat' (first | (with_reducible exact Below.refl _ _) | (with_reducible refine Below.alloc ?_ ?_ _) | (with_reducible refine Below.drew ?_) | (with_reducible refine below_drewN ?_ _) | (with_reducible refine Below.setCell ?_ ?_ _) | (with_reducible refine below_via ‹_› ?_ ?_) | (with_reducible refine below_grow ?_ ?_ _ _) | omega | (simp; done) | (simp; omega)))) HR.out)
    · cases hrb : rdB b.data.toList
      · have HR := hid (show workRd s = none by rw [hR1, hrb]; rfl)
        clear hR1
        go_wp2_with fail
        refine bodyPost_ret (v := .tuple #[.agg #[.string ⟨#[]⟩, .int .i64 0, .int .i64 0, .int .i64 0, .int .i64 0, .int .i64 0, .int .i64 0], .bool false]) (by simp [results, Tryd.results100, go_sem, *]) rfl (workPost_none (by (repeat' (first | (with_reducible exact Below.refl _ _) | (with_reducible refine Below.alloc ?_ ?_ _) | (with_reducible refine Below.drew ?_) | (with_reducible refine below_drewN ?_ _) | (with_reducible refine Below.setCell ?_ ?_ _) | (with_reducible refine below_via ‹_› ?_ ?_) | (with_reducible refine below_grow ?_ ?_ _ _) | omega | (simp; done) | (simp; omega)))) HR.out)
      · by_cases h3 : zs.length = 4
        · obtain ⟨l, m, f, u, rfl⟩ := four_of h3
          obtain ⟨zb, zo, rfl, hlz, hzb, hzl⟩ := cell_int hS3.1 rfl (k := 0) (by simp)
          have e0 := hzl 0 (by simp)
          have e1 := hzl 1 (by simp)
          have e2 := hzl 2 (by simp)
          have e3 := hzl 3 (by simp)
          simp only [List.getElem_cons_zero, List.getElem_cons_succ, Nat.add_zero] at e0 e1 e2 e3
          have hz4 : (((4 : Nat) : Int) != 4) = false := rfl
          have hil := hxs3 l (by simp)
          have him := hxs3 m (by simp)
          have hif := hxs3 f (by simp)
          have hiu := hxs3 u (by simp)
          have k0 : ∀ w', Since w3 w' → w'.cell? ⟨bb, off, none⟩ = some (.string a) := fun w' h => below_cell h.out (by omega) d0
          have k1 : ∀ w', Since w3 w' → w'.cell? ⟨zb, zo, none⟩ = some (.int .i64 l) := fun w' h => below_cell h.out hzb e0
          have k2 : ∀ w', Since w3 w' → w'.cell? ⟨zb, zo + 1, none⟩ = some (.int .i64 m) := fun w' h => below_cell h.out hzb e1
          have k3 : ∀ w', Since w3 w' → w'.cell? ⟨zb, zo + 2, none⟩ = some (.int .i64 f) := fun w' h => below_cell h.out hzb e2
          have k4 : ∀ w', Since w3 w' → w'.cell? ⟨zb, zo + 3, none⟩ = some (.int .i64 u) := fun w' h => below_cell h.out hzb e3
          have k5 : ∀ w', Since w3 w' → w'.cell? ⟨w2.heap.size, 0, none⟩ = some (.int .i64 x) := fun w' h => below_cell h.out (by omega) g0
          have k6 : ∀ w', Since w3 w' → w'.cell? ⟨w2.heap.size, 1, none⟩ = some (.int .i64 y) := fun w' h => below_cell h.out (by omega) g1
          have HR1 := hid (show workRd s = if workB a x y l m f u then some ⟨a, x, y, l, m, f, u⟩ else none by rw [hR1, hrb]; rfl)
          have hm2 : w.heap.size < w3.heap.size := by omega
          have HBK := hid hbk3
          clear hR1 hxs3 hzl hS3 b0 b1 b2 b3 b4 b5 b6 fx hbk3 hbp h3 hz
          go_wp2_with fail
          go_region_held3 (fun w' => Since w3 w') ((refine since_of ?_; (repeat' (first | (with_reducible exact Below.refl _ _) | (with_reducible refine Below.alloc ?_ ?_ _) | (with_reducible refine Below.drew ?_) | (with_reducible refine below_drewN ?_ _) | (with_reducible refine Below.setCell ?_ ?_ _) | (with_reducible refine below_via ‹_› ?_ ?_) | (with_reducible refine below_grow ?_ ?_ _ _) | omega | (simp; done) | (simp; omega))))) (first | fail)
          all_goals
            have fx := HBK.out.fr
            have b0 := HBK.out.cell 0 rfl
            have b1 := HBK.out.cell 1 rfl
            have b2 := HBK.out.cell 2 rfl
            have b3 := HBK.out.cell 3 rfl
            have b4 := HBK.out.cell 4 rfl
            have b5 := HBK.out.cell 5 rfl
            have b6 := HBK.out.cell 6 rfl
            clear k0 k1 k2 k3 k4 k5 k6
            cases hq : workB a x y l m f u
            · have HR := hid (show workRd s = none by rw [HR1.out, hq]; rfl)
              go_wp2_with (go_at_call 67; refine (c_l25Work _ 0 a x y l m f u _ (by simp) hsa (by simp [*, go_sem]) (by simp [*, go_sem]) (by simp [*, go_sem]) (by simp [*, go_sem]) (by simp [*, go_sem]) (by simp [*, go_sem]) (by simp [*, go_sem])).mono ?_; rintro e w4 ⟨rfl, hb4⟩; have hz4' := hb4.size; (try simp at hz4'); have hbk2 := HBK.out; have hbk3 : Bk w4 w.heap.size 37 [.string ⟨#[]⟩, .int .i64 0, .int .i64 0, .int .i64 0, .int .i64 0, .int .i64 0, .int .i64 0] := (by (repeat' (first | (with_reducible exact Bk.new _ _ _) | (with_reducible refine Bk.new1 ?_; first | rfl | (simp; done) | omega) | (with_reducible assumption) | (with_reducible refine Bk.alloc ?_ _) | (with_reducible refine Bk.drew ?_) | (with_reducible refine Bk.drewN ?_ _) | (with_reducible refine Bk.other ?_ ?_ _) | (with_reducible apply Bk.drewBy; with_reducible assumption) | (with_reducible apply Bk.viaB; with_reducible assumption) | omega | (simp; done)))); have r0 := hbk3.cell 0 rfl; have r1 := hbk3.cell 1 rfl; have r2 := hbk3.cell 2 rfl; have r3 := hbk3.cell 3 rfl; have r4 := hbk3.cell 4 rfl; have r5 := hbk3.cell 5 rfl; have r6 := hbk3.cell 6 rfl; have fx3 := hbk3.fr; have hbn : Bk w4 w3.heap.size 37 [.string a, .int .i64 x, .int .i64 y, .int .i64 l, .int .i64 m, .int .i64 f, .int .i64 u] := (by (repeat' (first | (with_reducible exact Bk.new _ _ _) | (with_reducible refine Bk.new1 ?_; first | rfl | (simp; done) | omega) | (with_reducible assumption) | (with_reducible refine Bk.alloc ?_ _) | (with_reducible refine Bk.drew ?_) | (with_reducible refine Bk.drewN ?_ _) | (with_reducible refine Bk.other ?_ ?_ _) | (with_reducible apply Bk.drewBy; with_reducible assumption) | (with_reducible apply Bk.viaB; with_reducible assumption) | omega | (simp; done)))); have n0 := hbn.cell 0 rfl; have n1 := hbn.cell 1 rfl; have n2 := hbn.cell 2 rfl; have n3 := hbn.cell 3 rfl; have n4 := hbn.cell 4 rfl; have n5 := hbn.cell 5 rfl; have n6 := hbn.cell 6 rfl; clear hbk2 hbk3 hbn)
              refine bodyPost_ret (v := .tuple #[.agg #[.string ⟨#[]⟩, .int .i64 0, .int .i64 0, .int .i64 0, .int .i64 0, .int .i64 0, .int .i64 0], .bool false]) (by simp [results, Tryd.results100, go_sem, *]) rfl (workPost_none (by (repeat' (first | (with_reducible exact Below.refl _ _) | (with_reducible refine Below.alloc ?_ ?_ _) | (with_reducible refine Below.drew ?_) | (with_reducible refine below_drewN ?_ _) | (with_reducible refine Below.setCell ?_ ?_ _) | (with_reducible refine below_via ‹_› ?_ ?_) | (with_reducible refine below_grow ?_ ?_ _ _) | omega | (simp; done) | (simp; omega)))) HR.out)
            · have HR := hid (show workRd s = some ⟨a, x, y, l, m, f, u⟩ by rw [HR1.out, hq]; rfl)
              go_wp2_with (go_at_call 67; refine (c_l25Work _ 0 a x y l m f u _ (by simp) hsa (by simp [*, go_sem]) (by simp [*, go_sem]) (by simp [*, go_sem]) (by simp [*, go_sem]) (by simp [*, go_sem]) (by simp [*, go_sem]) (by simp [*, go_sem])).mono ?_; rintro e w4 ⟨rfl, hb4⟩; have hz4' := hb4.size; (try simp at hz4'); have hbk2 := HBK.out; have hbk3 : Bk w4 w.heap.size 37 [.string ⟨#[]⟩, .int .i64 0, .int .i64 0, .int .i64 0, .int .i64 0, .int .i64 0, .int .i64 0] := (by (repeat' (first | (with_reducible exact Bk.new _ _ _) | (with_reducible refine Bk.new1 ?_; first | rfl | (simp; done) | omega) | (with_reducible assumption) | (with_reducible refine Bk.alloc ?_ _) | (with_reducible refine Bk.drew ?_) | (with_reducible refine Bk.drewN ?_ _) | (with_reducible refine Bk.other ?_ ?_ _) | (with_reducible apply Bk.drewBy; with_reducible assumption) | (with_reducible apply Bk.viaB; with_reducible assumption) | omega | (simp; done)))); have r0 := hbk3.cell 0 rfl; have r1 := hbk3.cell 1 rfl; have r2 := hbk3.cell 2 rfl; have r3 := hbk3.cell 3 rfl; have r4 := hbk3.cell 4 rfl; have r5 := hbk3.cell 5 rfl; have r6 := hbk3.cell 6 rfl; have fx3 := hbk3.fr; have hbn : Bk w4 w3.heap.size 37 [.string a, .int .i64 x, .int .i64 y, .int .i64 l, .int .i64 m, .int .i64 f, .int .i64 u] := (by (repeat' (first | (with_reducible exact Bk.new _ _ _) | (with_reducible refine Bk.new1 ?_; first | rfl | (simp; done) | omega) | (with_reducible assumption) | (with_reducible refine Bk.alloc ?_ _) | (with_reducible refine Bk.drew ?_) | (with_reducible refine Bk.drewN ?_ _) | (with_reducible refine Bk.other ?_ ?_ _) | (with_reducible apply Bk.drewBy; with_reducible assumption) | (with_reducible apply Bk.viaB; with_reducible assumption) | omega | (simp; done)))); have n0 := hbn.cell 0 rfl; have n1 := hbn.cell 1 rfl; have n2 := hbn.cell 2 rfl; have n3 := hbn.cell 3 rfl; have n4 := hbn.cell 4 rfl; have n5 := hbn.cell 5 rfl; have n6 := hbn.cell 6 rfl; clear hbk2 hbk3 hbn)
              refine bodyPost_ret (v := .tuple #[.agg #[.string a, .int .i64 x, .int .i64 y, .int .i64 l, .int .i64 m, .int .i64 f, .int .i64 u], .bool true]) (by simp [results, Tryd.results100, go_sem, *]) rfl (workPost_some (by (repeat' (first | (with_reducible exact Below.refl _ _) | (with_reducible refine Below.alloc ?_ ?_ _) | (with_reducible refine Below.drew ?_) | (with_reducible refine below_drewN ?_ _) | (with_reducible refine Below.setCell ?_ ?_ _) | (with_reducible refine below_via ‹_› ?_ ?_) | (with_reducible refine below_grow ?_ ?_ _ _) | omega | (simp; done) | (simp; omega)))) HR.out)
        · have hz4 : ((zs.length : Int) != 4) = true := by simp; omega
          have HR := hid (show workRd s = none by rw [hR1, hrb]; exact work4_len h3)
          clear hR1
          go_wp2_with fail
          refine bodyPost_ret (v := .tuple #[.agg #[.string ⟨#[]⟩, .int .i64 0, .int .i64 0, .int .i64 0, .int .i64 0, .int .i64 0, .int .i64 0], .bool false]) (by simp [results, Tryd.results100, go_sem, *]) rfl (workPost_none (by (repeat' (first | (with_reducible exact Below.refl _ _) | (with_reducible refine Below.alloc ?_ ?_ _) | (with_reducible refine Below.drew ?_) | (with_reducible refine below_drewN ?_ _) | (with_reducible refine Below.setCell ?_ ?_ _) | (with_reducible refine below_via ‹_› ?_ ?_) | (with_reducible refine below_grow ?_ ?_ _ _) | omega | (simp; done) | (simp; omega)))) HR.out)
  · have hz : ((xs.length : Int) != 3) = true := by simp; omega
    have HR := hid (hR0.trans (work3_len h2))
    clear hR0 hS1 hcs h2
    go_wp2_with fail
    refine bodyPost_ret (v := .tuple #[.agg #[.string ⟨#[]⟩, .int .i64 0, .int .i64 0, .int .i64 0, .int .i64 0, .int .i64 0, .int .i64 0], .bool false]) (by simp [results, Tryd.results100, go_sem, *]) rfl (workPost_none (by (repeat' (first | (with_reducible exact Below.refl _ _) | (with_reducible refine Below.alloc ?_ ?_ _) | (with_reducible refine Below.drew ?_) | (with_reducible refine below_drewN ?_ _) | (with_reducible refine Below.setCell ?_ ?_ _) | (with_reducible refine below_via ‹_› ?_ ?_) | (with_reducible refine below_grow ?_ ?_ _ _) | omega | (simp; done) | (simp; omega)))) HR.out)
set_option maxHeartbeats 8000000 in
theorem c_impl_ReadWork (s : ByteArray) (w : World) (hs : (s.size : Int) ≤ 1048576) (hrd : Rd w) :
    Calls Tryd.prog 46 #[.string s] w (WorkPost (workRd s) w) := by
  rw [← workRdI_eq]
  have csp := fun w' hr => c_SplitWords s w' hs hr
  have hcs := words_size s
  go_enter Tryd.func46, Tryd.ntmps46
  go_wp2_with fail
  refine (csp _ (hrd.at (by (repeat' (first | (with_reducible exact Below.refl _ _) | (with_reducible refine Below.alloc ?_ ?_ _) | (with_reducible refine Below.drew ?_) | (with_reducible refine below_drewN ?_ _) | (with_reducible refine Below.setCell ?_ ?_ _) | (with_reducible refine below_via ‹_› ?_ ?_) | (with_reducible refine below_grow ?_ ?_ _ _) | omega | (simp; done) | (simp; omega)))))).mono ?_
  rintro e w1 ⟨v, rfl, hb1, hS1⟩
  obtain ⟨hc1, hf1⟩ := bcell hb1; have hz1 := hb1.size; (try simp at hz1); (try have hy : w.heap.size < w1.heap.size := by omega); (try have hy : w.heap.size ≤ w1.heap.size := by omega); (try have hy : w.heap.size + 1 < w1.heap.size := by omega); (try have hy : w.heap.size + 1 ≤ w1.heap.size := by omega); (try have hy : w.heap.size + 2 < w1.heap.size := by omega); (try have hy : w.heap.size + 2 ≤ w1.heap.size := by omega)
  obtain ⟨xs, hxs⟩ : ∃ xs, xs = (wordsL s.data.toList).map bs := ⟨_, rfl⟩
  rw [← hxs] at hS1 hcs
  have hR0 : workRdI s = work3 (workEq s) xs := by rw [workRdI, ← hxs]
  clear hxs
  obtain ⟨ad, cap, rfl⟩ := hS1.1.form
  have hbk : Bk w1 w.heap.size 37 [.string ⟨#[]⟩, .int .i64 0, .int .i64 0, .int .i64 0, .int .i64 0, .int .i64 0, .int .i64 0] := (Bk.new _ _ _).below hb1
  have fx := hbk.fr
  have b0 := hbk.cell 0 rfl
  have b1 := hbk.cell 1 rfl
  have b2 := hbk.cell 2 rfl
  have b3 := hbk.cell 3 rfl
  have b4 := hbk.cell 4 rfl
  have b5 := hbk.cell 5 rfl
  have b6 := hbk.cell 6 rfl
  have hwx : w.heap.size < w1.heap.size := by omega
  have hB1 : Below w.heap.size w w1 := by (repeat' (first | (with_reducible exact Below.refl _ _) | (with_reducible refine Below.alloc ?_ ?_ _) | (with_reducible refine Below.drew ?_) | (with_reducible refine below_drewN ?_ _) | (with_reducible refine Below.setCell ?_ ?_ _) | (with_reducible refine below_via ‹_› ?_ ?_) | (with_reducible refine below_grow ?_ ?_ _ _) | omega | (simp; done) | (simp; omega)))
  clear hc1 hf1
  by_cases h2 : xs.length = 3
  · obtain ⟨a, p, b, rfl⟩ := three_ofB h2
    have hsp : (p.size : Int) ≤ 1048576 := by have := hcs p (by simp); omega
    have hsb : (b.size : Int) ≤ 1048576 := by have := hcs b (by simp); omega
    have hsi : (a.size : Int) ≤ 1048576 := by have := hcs a (by simp); omega
    have hsa : a.size ≤ maxLen := by unfold maxLen; omega
    obtain ⟨bb, off, rfl, hlo, hbb, hcl⟩ := cell_str hS1.1 rfl (k := 0) (by simp)
    have hbne : bb ≠ w.heap.size := by simp at hlo; omega
    have c0 := hcl 0 (by simp)
    have c1 := hcl 1 (by simp)
    have c2 := hcl 2 (by simp)
    simp only [List.getElem_cons_zero, List.getElem_cons_succ, Nat.add_zero] at c0 c1 c2
    have hz : (((3 : Nat) : Int) != 3) = false := rfl
    obtain ⟨x, hx⟩ : ∃ x, x = ptX p.data.toList := ⟨_, rfl⟩
    obtain ⟨y, hy⟩ : ∃ y, y = ptY p.data.toList := ⟨_, rfl⟩
    obtain ⟨o, ho⟩ : ∃ o, o = ptB p.data.toList := ⟨_, rfl⟩
    have hix : I64 x ∧ I64 y := by rw [hx, hy]; exact pt_i64 _
    have cp : ∀ w', Rd w' → Calls Tryd.prog 101 #[.string p] w' fun e w'' => e = .returned (.tuple #[.agg #[.int .i64 x, .int .i64 y], .bool o]) ∧ Below w'.heap.size w' w'' := fun w' hr => by rw [hx, hy, ho]; exact c_ReadPoint p w' hsp hr
    have hR1 : workRdI s = if o && rdB b.data.toList then work4 (workEq s) a x y (rdX b.data.toList) else none := by rw [hR0, hx, hy, ho]; rfl
    have HR0 := hid hR1
    clear hS1 hcs h2 hR0 hR1 hx hy ho hcl
    go_wp2_with fail
    refine (cp _ (hrd.at (by (repeat' (first | (with_reducible exact Below.refl _ _) | (with_reducible refine Below.alloc ?_ ?_ _) | (with_reducible refine Below.drew ?_) | (with_reducible refine below_drewN ?_ _) | (with_reducible refine Below.setCell ?_ ?_ _) | (with_reducible refine below_via ‹_› ?_ ?_) | (with_reducible refine below_grow ?_ ?_ _ _) | omega | (simp; done) | (simp; omega)))))).mono ?_
    rintro e w2 ⟨rfl, hb2⟩
    have hz2 := hb2.size
    have hB12 : Below w1.heap.size w1 w2 := hb2
    have e0 := below_cell hb2 hbb c0
    have e2 := below_cell hb2 hbb c2
    have hbk2 := hbk.below hb2
    have hbn2 : bb ≠ w2.heap.size := by omega
    have hbl2 : bb < w2.heap.size := by omega
    clear c0 c1 c2 hbk b0 b1 b2 b3 b4 b5 b6 fx
    have fx := hbk2.fr
    have b0 := hbk2.cell 0 rfl
    have b1 := hbk2.cell 1 rfl
    have b2 := hbk2.cell 2 rfl
    have b3 := hbk2.cell 3 rfl
    have b4 := hbk2.cell 4 rfl
    have b5 := hbk2.cell 5 rfl
    have b6 := hbk2.cell 6 rfl
    go_wp2_with fail
    refine (c_impl_ReadList b _ hsb (hrd.at (by (repeat' (first | (with_reducible exact Below.refl _ _) | (with_reducible refine Below.alloc ?_ ?_ _) | (with_reducible refine Below.drew ?_) | (with_reducible refine below_drewN ?_ _) | (with_reducible refine Below.setCell ?_ ?_ _) | (with_reducible refine below_via ‹_› ?_ ?_) | (with_reducible refine below_grow ?_ ?_ _ _) | omega | (simp; done) | (simp; omega)))))).mono ?_
    rintro e w3 ⟨u0, rfl, hb3, hS3⟩
    have hz3 := hb3.size
    simp at hz3
    have hB23 : Below w2.heap.size w2 w3 := by (repeat' (first | (with_reducible exact Below.refl _ _) | (with_reducible refine Below.alloc ?_ ?_ _) | (with_reducible refine Below.drew ?_) | (with_reducible refine below_drewN ?_ _) | (with_reducible refine Below.setCell ?_ ?_ _) | (with_reducible refine below_via ‹_› ?_ ?_) | (with_reducible refine below_grow ?_ ?_ _ _) | omega | (simp; done) | (simp; omega)))
    have hB3 : Below w.heap.size w w3 := by (repeat' (first | (with_reducible exact Below.refl _ _) | (with_reducible refine Below.alloc ?_ ?_ _) | (with_reducible refine Below.drew ?_) | (with_reducible refine below_drewN ?_ _) | (with_reducible refine Below.setCell ?_ ?_ _) | (with_reducible refine below_via ‹_› ?_ ?_) | (with_reducible refine below_grow ?_ ?_ _ _) | omega | (simp; done) | (simp; omega)))
    have d0 := below_cell hB23 (by omega) e0
    have hbk3 := hbk2.below hB23
    have hbp : Bk w3 w2.heap.size 35 [.int .i64 x, .int .i64 y] := (Bk.new _ _ _).below hb3
    clear e0 e2 hbk2 b0 b1 b2 b3 b4 b5 b6 fx
    have fx := hbk3.fr
    have b0 := hbk3.cell 0 rfl
    have b1 := hbk3.cell 1 rfl
    have b2 := hbk3.cell 2 rfl
    have b3 := hbk3.cell 3 rfl
    have b4 := hbk3.cell 4 rfl
    have b5 := hbk3.cell 5 rfl
    have b6 := hbk3.cell 6 rfl
    have g0 := hbp.cell 0 rfl
    have g1 := hbp.cell 1 rfl
    have hR1 := HR0.out
    clear HR0
    have hxs3 := rdX_i64 (l := b.data.toList)
    obtain ⟨zs, hzs⟩ : ∃ zs, zs = rdX b.data.toList := ⟨_, rfl⟩
    rw [← hzs] at hS3 hxs3 hR1
    obtain ⟨adu, cpu, rfl⟩ := hS3.1.form
    clear hzs
    have hn1 : w.heap.size ≠ w3.heap.size := by omega
    have hn2 : w3.heap.size ≠ w.heap.size := by omega
    cases o
    · have HR := hid (show workRdI s = none by rw [hR1]; rfl)
      clear hR1
      go_wp2_with fail
      refine bodyPost_ret (v := .tuple #[.agg #[.string ⟨#[]⟩, .int .i64 0, .int .i64 0, .int .i64 0, .int .i64 0, .int .i64 0, .int .i64 0], .bool false]) (by simp [results, Tryd.results46, go_sem, *]) rfl (workPost_none (by (repeat' (first | (with_reducible exact Below.refl _ _) | (with_reducible refine Below.alloc ?_ ?_ _) | (with_reducible refine Below.drew ?_) | (with_reducible refine below_drewN ?_ _) | (with_reducible refine Below.setCell ?_ ?_ _) | (with_reducible refine below_via ‹_› ?_ ?_) | (with_reducible refine below_grow ?_ ?_ _ _) | omega | (simp; done) | (simp; omega)))) HR.out)
    · cases hrb : rdB b.data.toList
      · have HR := hid (show workRdI s = none by rw [hR1, hrb]; rfl)
        clear hR1
        go_wp2_with fail
        refine bodyPost_ret (v := .tuple #[.agg #[.string ⟨#[]⟩, .int .i64 0, .int .i64 0, .int .i64 0, .int .i64 0, .int .i64 0, .int .i64 0], .bool false]) (by simp [results, Tryd.results46, go_sem, *]) rfl (workPost_none (by (repeat' (first | (with_reducible exact Below.refl _ _) | (with_reducible refine Below.alloc ?_ ?_ _) | (with_reducible refine Below.drew ?_) | (with_reducible refine below_drewN ?_ _) | (with_reducible refine Below.setCell ?_ ?_ _) | (with_reducible refine below_via ‹_› ?_ ?_) | (with_reducible refine below_grow ?_ ?_ _ _) | omega | (simp; done) | (simp; omega)))) HR.out)
      · by_cases h3 : zs.length = 4
        · obtain ⟨l, m, f, u, rfl⟩ := four_of h3
          obtain ⟨zb, zo, rfl, hlz, hzb, hzl⟩ := cell_int hS3.1 rfl (k := 0) (by simp)
          have e0 := hzl 0 (by simp)
          have e1 := hzl 1 (by simp)
          have e2 := hzl 2 (by simp)
          have e3 := hzl 3 (by simp)
          simp only [List.getElem_cons_zero, List.getElem_cons_succ, Nat.add_zero] at e0 e1 e2 e3
          have hz4 : (((4 : Nat) : Int) != 4) = false := rfl
          have hil := hxs3 l (by simp)
          have him := hxs3 m (by simp)
          have hif := hxs3 f (by simp)
          have hiu := hxs3 u (by simp)
          have k0 : ∀ w', Since w3 w' → w'.cell? ⟨bb, off, none⟩ = some (.string a) := fun w' h => below_cell h.out (by omega) d0
          have k1 : ∀ w', Since w3 w' → w'.cell? ⟨zb, zo, none⟩ = some (.int .i64 l) := fun w' h => below_cell h.out hzb e0
          have k2 : ∀ w', Since w3 w' → w'.cell? ⟨zb, zo + 1, none⟩ = some (.int .i64 m) := fun w' h => below_cell h.out hzb e1
          have k3 : ∀ w', Since w3 w' → w'.cell? ⟨zb, zo + 2, none⟩ = some (.int .i64 f) := fun w' h => below_cell h.out hzb e2
          have k4 : ∀ w', Since w3 w' → w'.cell? ⟨zb, zo + 3, none⟩ = some (.int .i64 u) := fun w' h => below_cell h.out hzb e3
          have k5 : ∀ w', Since w3 w' → w'.cell? ⟨w2.heap.size, 0, none⟩ = some (.int .i64 x) := fun w' h => below_cell h.out (by omega) g0
          have k6 : ∀ w', Since w3 w' → w'.cell? ⟨w2.heap.size, 1, none⟩ = some (.int .i64 y) := fun w' h => below_cell h.out (by omega) g1
          have HR1 := hid (show workRdI s = if workEq s a x y l m f u then some ⟨a, x, y, l, m, f, u⟩ else none by rw [hR1, hrb]; rfl)
          have hm2 : w.heap.size < w3.heap.size := by omega
          have HBK := hid hbk3
          clear hR1 hxs3 hzl hS3 b0 b1 b2 b3 b4 b5 b6 fx hbk3 hbp h3 hz
          go_wp2_with fail
          go_region_held3 (fun w' => Since w3 w') ((refine since_of ?_; (repeat' (first | (with_reducible exact Below.refl _ _) | (with_reducible refine Below.alloc ?_ ?_ _) | (with_reducible refine Below.drew ?_) | (with_reducible refine below_drewN ?_ _) | (with_reducible refine Below.setCell ?_ ?_ _) | (with_reducible refine below_via ‹_› ?_ ?_) | (with_reducible refine below_grow ?_ ?_ _ _) | omega | (simp; done) | (simp; omega))))) (first | fail)
          all_goals
            have fx := HBK.out.fr
            have b0 := HBK.out.cell 0 rfl
            have b1 := HBK.out.cell 1 rfl
            have b2 := HBK.out.cell 2 rfl
            have b3 := HBK.out.cell 3 rfl
            have b4 := HBK.out.cell 4 rfl
            have b5 := HBK.out.cell 5 rfl
            have b6 := HBK.out.cell 6 rfl
            clear k0 k1 k2 k3 k4 k5 k6
            cases hq : workEq s a x y l m f u
            · have HR := hid (show workRdI s = none by rw [HR1.out, hq]; rfl)
              have hq1 : ((workR a x y l m f u).toList == s.toList) = false := hq
              have hq2 : ((workR a x y l m f u).toList != s.toList) = true := by simp [bne, hq1]
              go_wp2_with (go_at_call 22; refine (c_impl_WorkText a x y l m f u _ hsi hix.1 hix.2 hil him hif hiu (hrd.pow.at (by (repeat' (first | (with_reducible exact Below.refl _ _) | (with_reducible refine Below.alloc ?_ ?_ _) | (with_reducible refine Below.drew ?_) | (with_reducible refine below_drewN ?_ _) | (with_reducible refine Below.setCell ?_ ?_ _) | (with_reducible refine below_via ‹_› ?_ ?_) | (with_reducible refine below_grow ?_ ?_ _ _) | omega | (simp; done) | (simp; omega)))))).mono ?_; rintro e w4 ⟨rfl, hb4⟩; have hz4' := hb4.size; (try simp at hz4'); have hbk2 := HBK.out; have hbk3 : Bk w4 w.heap.size 37 [.string ⟨#[]⟩, .int .i64 0, .int .i64 0, .int .i64 0, .int .i64 0, .int .i64 0, .int .i64 0] := (by (repeat' (first | (with_reducible exact Bk.new _ _ _) | (with_reducible refine Bk.new1 ?_; first | rfl | (simp; done) | omega) | (with_reducible assumption) | (with_reducible refine Bk.alloc ?_ _) | (with_reducible refine Bk.drew ?_) | (with_reducible refine Bk.drewN ?_ _) | (with_reducible refine Bk.other ?_ ?_ _) | (with_reducible apply Bk.drewBy; with_reducible assumption) | (with_reducible apply Bk.viaB; with_reducible assumption) | omega | (simp; done)))); have r0 := hbk3.cell 0 rfl; have r1 := hbk3.cell 1 rfl; have r2 := hbk3.cell 2 rfl; have r3 := hbk3.cell 3 rfl; have r4 := hbk3.cell 4 rfl; have r5 := hbk3.cell 5 rfl; have r6 := hbk3.cell 6 rfl; have fx3 := hbk3.fr; have hbn : Bk w4 w3.heap.size 37 [.string a, .int .i64 x, .int .i64 y, .int .i64 l, .int .i64 m, .int .i64 f, .int .i64 u] := (by (repeat' (first | (with_reducible exact Bk.new _ _ _) | (with_reducible refine Bk.new1 ?_; first | rfl | (simp; done) | omega) | (with_reducible assumption) | (with_reducible refine Bk.alloc ?_ _) | (with_reducible refine Bk.drew ?_) | (with_reducible refine Bk.drewN ?_ _) | (with_reducible refine Bk.other ?_ ?_ _) | (with_reducible apply Bk.drewBy; with_reducible assumption) | (with_reducible apply Bk.viaB; with_reducible assumption) | omega | (simp; done)))); have n0 := hbn.cell 0 rfl; have n1 := hbn.cell 1 rfl; have n2 := hbn.cell 2 rfl; have n3 := hbn.cell 3 rfl; have n4 := hbn.cell 4 rfl; have n5 := hbn.cell 5 rfl; have n6 := hbn.cell 6 rfl; clear hbk2 hbk3 hbn)
              refine bodyPost_ret (v := .tuple #[.agg #[.string ⟨#[]⟩, .int .i64 0, .int .i64 0, .int .i64 0, .int .i64 0, .int .i64 0, .int .i64 0], .bool false]) (by simp [results, Tryd.results46, go_sem, *]) rfl (workPost_none (by (repeat' (first | (with_reducible exact Below.refl _ _) | (with_reducible refine Below.alloc ?_ ?_ _) | (with_reducible refine Below.drew ?_) | (with_reducible refine below_drewN ?_ _) | (with_reducible refine Below.setCell ?_ ?_ _) | (with_reducible refine below_via ‹_› ?_ ?_) | (with_reducible refine below_grow ?_ ?_ _ _) | omega | (simp; done) | (simp; omega)))) HR.out)
            · have HR := hid (show workRdI s = some ⟨a, x, y, l, m, f, u⟩ by rw [HR1.out, hq]; rfl)
              have hq1 : ((workR a x y l m f u).toList == s.toList) = true := hq
              have hq2 : ((workR a x y l m f u).toList != s.toList) = false := by simp [bne, hq1]
              go_wp2_with (go_at_call 22; refine (c_impl_WorkText a x y l m f u _ hsi hix.1 hix.2 hil him hif hiu (hrd.pow.at (by (repeat' (first | (with_reducible exact Below.refl _ _) | (with_reducible refine Below.alloc ?_ ?_ _) | (with_reducible refine Below.drew ?_) | (with_reducible refine below_drewN ?_ _) | (with_reducible refine Below.setCell ?_ ?_ _) | (with_reducible refine below_via ‹_› ?_ ?_) | (with_reducible refine below_grow ?_ ?_ _ _) | omega | (simp; done) | (simp; omega)))))).mono ?_; rintro e w4 ⟨rfl, hb4⟩; have hz4' := hb4.size; (try simp at hz4'); have hbk2 := HBK.out; have hbk3 : Bk w4 w.heap.size 37 [.string ⟨#[]⟩, .int .i64 0, .int .i64 0, .int .i64 0, .int .i64 0, .int .i64 0, .int .i64 0] := (by (repeat' (first | (with_reducible exact Bk.new _ _ _) | (with_reducible refine Bk.new1 ?_; first | rfl | (simp; done) | omega) | (with_reducible assumption) | (with_reducible refine Bk.alloc ?_ _) | (with_reducible refine Bk.drew ?_) | (with_reducible refine Bk.drewN ?_ _) | (with_reducible refine Bk.other ?_ ?_ _) | (with_reducible apply Bk.drewBy; with_reducible assumption) | (with_reducible apply Bk.viaB; with_reducible assumption) | omega | (simp; done)))); have r0 := hbk3.cell 0 rfl; have r1 := hbk3.cell 1 rfl; have r2 := hbk3.cell 2 rfl; have r3 := hbk3.cell 3 rfl; have r4 := hbk3.cell 4 rfl; have r5 := hbk3.cell 5 rfl; have r6 := hbk3.cell 6 rfl; have fx3 := hbk3.fr; have hbn : Bk w4 w3.heap.size 37 [.string a, .int .i64 x, .int .i64 y, .int .i64 l, .int .i64 m, .int .i64 f, .int .i64 u] := (by (repeat' (first | (with_reducible exact Bk.new _ _ _) | (with_reducible refine Bk.new1 ?_; first | rfl | (simp; done) | omega) | (with_reducible assumption) | (with_reducible refine Bk.alloc ?_ _) | (with_reducible refine Bk.drew ?_) | (with_reducible refine Bk.drewN ?_ _) | (with_reducible refine Bk.other ?_ ?_ _) | (with_reducible apply Bk.drewBy; with_reducible assumption) | (with_reducible apply Bk.viaB; with_reducible assumption) | omega | (simp; done)))); have n0 := hbn.cell 0 rfl; have n1 := hbn.cell 1 rfl; have n2 := hbn.cell 2 rfl; have n3 := hbn.cell 3 rfl; have n4 := hbn.cell 4 rfl; have n5 := hbn.cell 5 rfl; have n6 := hbn.cell 6 rfl; clear hbk2 hbk3 hbn)
              refine bodyPost_ret (v := .tuple #[.agg #[.string a, .int .i64 x, .int .i64 y, .int .i64 l, .int .i64 m, .int .i64 f, .int .i64 u], .bool true]) (by simp [results, Tryd.results46, go_sem, *]) rfl (workPost_some (by (repeat' (first | (with_reducible exact Below.refl _ _) | (with_reducible refine Below.alloc ?_ ?_ _) | (with_reducible refine Below.drew ?_) | (with_reducible refine below_drewN ?_ _) | (with_reducible refine Below.setCell ?_ ?_ _) | (with_reducible refine below_via ‹_› ?_ ?_) | (with_reducible refine below_grow ?_ ?_ _ _) | omega | (simp; done) | (simp; omega)))) HR.out)
        · have hz4 : ((zs.length : Int) != 4) = true := by simp; omega
          have HR := hid (show workRdI s = none by rw [hR1, hrb]; exact work4_len h3)
          clear hR1
          go_wp2_with fail
          refine bodyPost_ret (v := .tuple #[.agg #[.string ⟨#[]⟩, .int .i64 0, .int .i64 0, .int .i64 0, .int .i64 0, .int .i64 0, .int .i64 0], .bool false]) (by simp [results, Tryd.results46, go_sem, *]) rfl (workPost_none (by (repeat' (first | (with_reducible exact Below.refl _ _) | (with_reducible refine Below.alloc ?_ ?_ _) | (with_reducible refine Below.drew ?_) | (with_reducible refine below_drewN ?_ _) | (with_reducible refine Below.setCell ?_ ?_ _) | (with_reducible refine below_via ‹_› ?_ ?_) | (with_reducible refine below_grow ?_ ?_ _ _) | omega | (simp; done) | (simp; omega)))) HR.out)
  · have hz : ((xs.length : Int) != 3) = true := by simp; omega
    have HR := hid (hR0.trans (work3_len h2))
    clear hR0 hS1 hcs h2
    go_wp2_with fail
    refine bodyPost_ret (v := .tuple #[.agg #[.string ⟨#[]⟩, .int .i64 0, .int .i64 0, .int .i64 0, .int .i64 0, .int .i64 0, .int .i64 0], .bool false]) (by simp [results, Tryd.results46, go_sem, *]) rfl (workPost_none (by (repeat' (first | (with_reducible exact Below.refl _ _) | (with_reducible refine Below.alloc ?_ ?_ _) | (with_reducible refine Below.drew ?_) | (with_reducible refine below_drewN ?_ _) | (with_reducible refine Below.setCell ?_ ?_ _) | (with_reducible refine below_via ‹_› ?_ ?_) | (with_reducible refine below_grow ?_ ?_ _ _) | omega | (simp; done) | (simp; omega)))) HR.out)
def workV (s : ByteArray) : WorkD := (workRd s).getD zWork
def workOk (s : ByteArray) : Bool := (workRd s).isSome
def WorkP (s : ByteArray) (w : World) (e : Ending) (w' : World) : Prop := e = .returned (.tuple #[.agg #[.string (workV s).fName, .int .i64 (workV s).fAtX, .int .i64 (workV s).fAtY, .int .i64 (workV s).fLoad, .int .i64 (workV s).fMinutes, .int .i64 (workV s).fFrom, .int .i64 (workV s).fUntil], .bool (workOk s)]) ∧ Below w.heap.size w w'
theorem c_spec_ReadWork (s : ByteArray) (w : World) (hs : (s.size : Int) ≤ 1048576) :
    Calls Tryd.prog 45 #[.string s] w fun e w' => e = .returned (.tuple #[.agg #[.string (workV s).fName, .int .i64 (workV s).fAtX, .int .i64 (workV s).fAtY, .int .i64 (workV s).fLoad, .int .i64 (workV s).fMinutes, .int .i64 (workV s).fFrom, .int .i64 (workV s).fUntil], .bool (workOk s)]) ∧ Below w.heap.size w w' := by
  have cr : ∀ w', Calls Tryd.prog 100 #[.string s] w' fun e w'' => e = .returned (.tuple #[.agg #[.string (workV s).fName, .int .i64 (workV s).fAtX, .int .i64 (workV s).fAtY, .int .i64 (workV s).fLoad, .int .i64 (workV s).fMinutes, .int .i64 (workV s).fFrom, .int .i64 (workV s).fUntil], .bool (workOk s)]) ∧ Below w'.heap.size w' w'' := fun w' => c_l25ReadWork s w' hs
  obtain ⟨d, hd⟩ : ∃ d, d = workV s := ⟨_, rfl⟩
  obtain ⟨b, hb⟩ : ∃ b, b = workOk s := ⟨_, rfl⟩
  rw [← hd, ← hb] at cr ⊢
  clear hd hb
  go_enter Tryd.func45, Tryd.ntmps45
  go_wp2_with fail
  refine (cr _).mono ?_
  rintro e w1 ⟨rfl, hb1⟩
  have hbk : Bk w1 w.heap.size 37 [.string ⟨#[]⟩, .int .i64 0, .int .i64 0, .int .i64 0, .int .i64 0, .int .i64 0, .int .i64 0] := (Bk.new _ _ _).below hb1
  have b0 := hbk.cell 0 rfl
  have b1 := hbk.cell 1 rfl
  have b2 := hbk.cell 2 rfl
  have b3 := hbk.cell 3 rfl
  have b4 := hbk.cell 4 rfl
  have b5 := hbk.cell 5 rfl
  have b6 := hbk.cell 6 rfl
  have fx := hbk.fr
  have hz1 := hb1.size
  simp at hz1
  go_wp2_with fail
  refine bodyPost_ret (v := .tuple #[.agg #[.string d.fName, .int .i64 d.fAtX, .int .i64 d.fAtY, .int .i64 d.fLoad, .int .i64 d.fMinutes, .int .i64 d.fFrom, .int .i64 d.fUntil], .bool b]) (by simp [results, Tryd.results45, go_sem, *]) rfl ⟨rfl, by (repeat' (first | (with_reducible exact Below.refl _ _) | (with_reducible refine Below.alloc ?_ ?_ _) | (with_reducible refine Below.drew ?_) | (with_reducible refine below_drewN ?_ _) | (with_reducible refine Below.setCell ?_ ?_ _) | (with_reducible refine below_via ‹_› ?_ ?_) | (with_reducible refine below_grow ?_ ?_ _ _) | omega | (simp; done) | (simp; omega)))⟩
theorem c_impl_ReadWork' (s : ByteArray) (w : World) (hs : (s.size : Int) ≤ 1048576) (hrd : Rd w) :
    Calls Tryd.prog 46 #[.string s] w fun e w' => e = .returned (.tuple #[.agg #[.string (workV s).fName, .int .i64 (workV s).fAtX, .int .i64 (workV s).fAtY, .int .i64 (workV s).fLoad, .int .i64 (workV s).fMinutes, .int .i64 (workV s).fFrom, .int .i64 (workV s).fUntil], .bool (workOk s)]) ∧ Below w.heap.size w w' := c_impl_ReadWork s w hs hrd
end Go.Proofs.YtfnfkpmkppkleaaDoor
