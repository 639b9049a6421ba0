/- A work read, both sides. Printed by wip/mkreadwork.py. -/
import Derived.Test.YtabbhlehbhadiaaGreatDoorPointRd
import Derived.Test.YtabbhlehbhadiaaGreatDoorWorkT
import Derived.Deep.RegionHeld3
namespace Go.Proofs.YtabbhlehbhadiaaGreatDoor
open Go.RowKit Go.Sort
set_option linter.unusedVariables false
set_option maxRecDepth 100000

abbrev WorkC := ByteArray → Int → Int → Int → Int → Int → Int → Bool
def work4 (c : WorkC) (a : ByteArray) (x y : Int) : List Int → Option WorkD
  | [l, m, f, u] => if c a x y l m f u then some ⟨a, x, y, l, m, f, u⟩ else none
  | _ => none
def work3 (c : WorkC) : List ByteArray → Option WorkD
  | [a, p, b] => if ptB p.data.toList && rdB b.data.toList then work4 c a (ptX p.data.toList) (ptY p.data.toList) (rdX b.data.toList) else none
  | _ => none
theorem four_of {xs : List Int} (h : xs.length = 4) : ∃ a b c d, xs = [a, b, c, d] := by
  match xs, h with
  | [a, b, c, d], _ => exact ⟨a, b, c, d, rfl⟩
theorem three_ofB {xs : List ByteArray} (h : xs.length = 3) : ∃ a b c, xs = [a, b, c] := by
  match xs, h with
  | [a, b, c], _ => exact ⟨a, b, c, rfl⟩
theorem work4_len {c : WorkC} {a : ByteArray} {x y : Int} {xs : List Int} (h : xs.length ≠ 4) : work4 c a x y xs = none := by
  match xs, h with
  | [], _ => rfl
  | [_], _ => rfl
  | [_, _], _ => rfl
  | [_, _, _], _ => rfl
  | [_, _, _, _], h => exact absurd rfl h
  | _ :: _ :: _ :: _ :: _ :: _, _ => rfl
theorem work3_len {c : WorkC} {ps : List ByteArray} (h : ps.length ≠ 3) : work3 c ps = none := by
  match ps, h with
  | [], _ => rfl
  | [_], _ => rfl
  | [_, _], _ => rfl
  | [_, _, _], h => exact absurd rfl h
  | _ :: _ :: _ :: _ :: _, _ => rfl
theorem work3_some {c : WorkC} {ps : List ByteArray} {d : WorkD} (h : work3 c ps = some d) :
    ∃ p b, ps = [d.fName, p, b] ∧ (ptB p.data.toList = true ∧ ptX p.data.toList = d.fAtX ∧ ptY p.data.toList = d.fAtY) ∧ (rdB b.data.toList = true ∧ rdX b.data.toList = [d.fLoad, d.fMinutes, d.fFrom, d.fUntil]) ∧ c d.fName d.fAtX d.fAtY d.fLoad d.fMinutes d.fFrom d.fUntil = true := by
  by_cases h3 : ps.length = 3
  · obtain ⟨a, p, b, rfl⟩ := three_ofB h3
    simp only [work3] at h
    cases hp : ptB p.data.toList with
    | false => rw [hp] at h; cases h
    | true =>
      cases hr : rdB b.data.toList with
      | false => rw [hp, hr] at h; cases h
      | true =>
        rw [hp, hr, Bool.and_self, if_pos rfl] at h
        by_cases h4 : (rdX b.data.toList).length = 4
        · obtain ⟨l, m, f, u, hx⟩ := four_of h4
          rw [hx] at h
          simp only [work4] at h
          split at h
          · rename_i hc
            injection h with h
            subst h
            exact ⟨p, b, rfl, ⟨hp, rfl, rfl⟩, ⟨hr, hx⟩, hc⟩
          · cases h
        · rw [work4_len h4] at h; cases h
  · rw [work3_len h3] at h; cases h
theorem work3_of {c : WorkC} {a p b : ByteArray} {x y l m f u : Int} (hp : ptB p.data.toList = true ∧ ptX p.data.toList = x ∧ ptY p.data.toList = y) (hr : rdB b.data.toList = true) (hx : rdX b.data.toList = [l, m, f, u]) (hc : c a x y l m f u = true) : work3 c [a, p, b] = some ⟨a, x, y, l, m, f, u⟩ := by
  simp only [work3, hp.1, hr, Bool.and_self, if_true, hx, hp.2.1, hp.2.2, work4, hc]
def workRd (s : ByteArray) : Option WorkD := work3 workB (cutB 32 s.data.toList)
def workEq (s : ByteArray) : WorkC := fun a x y l m f u => (workR a x y l m f u).toList == s.toList
def workRdI (s : ByteArray) : Option WorkD := work3 (workEq s) ((wordsL s.data.toList).map bs)
theorem pointL_no32 (x y : Int) : (32 : UInt8) ∉ pointL x y := by
  intro h
  rcases List.mem_append.1 h with h | h
  · exact itoa_no32 x h
  · rcases List.mem_cons.1 h with h | h
    · exact absurd h (by decide)
    · exact itoa_no32 y h
theorem pointL_ne (x y : Int) : pointL x y ≠ [] := by unfold pointL; simp
def lW (d : WorkD) : List UInt8 := listL [d.fLoad, d.fMinutes, d.fFrom, d.fUntil]
def okW (d : WorkD) : Bool := workB d.fName d.fAtX d.fAtY d.fLoad d.fMinutes d.fFrom d.fUntil
def txW (d : WorkD) : List UInt8 := workT d.fName d.fAtX d.fAtY d.fLoad d.fMinutes d.fFrom d.fUntil
theorem work_cut {s : ByteArray} {d : WorkD} (h1 : okW d = true) (h2 : txW d = s.data.toList) : cutAt 32 s.data.toList = [d.fName.data.toList, pointL d.fAtX d.fAtY, lW d] ∧ d.fName.data.toList ≠ [] := by
  have hn : nameB d.fName = true := by simp only [okW, workB, Bool.and_eq_true] at h1; exact h1.1.1.1.1.1
  obtain ⟨n1, n2⟩ := name_no32 hn
  refine ⟨?_, n2⟩
  rw [← h2, txW, workT, cutAt_app 32 _ _ n1, cutAt_app 32 _ _ (pointL_no32 _ _), cutAt_clean 32 _ (listL_no32 _)]; rfl
theorem work_back {d : WorkD} {c : WorkC} (h1 : okW d = true) (hc : c d.fName d.fAtX d.fAtY d.fLoad d.fMinutes d.fFrom d.fUntil = true) : work3 c [d.fName, bs (pointL d.fAtX d.fAtY), bs (lW d)] = some d := by
  obtain ⟨hfit, hpt, -⟩ := work_fits h1
  have hr := (rd_iff (lW d) [d.fLoad, d.fMinutes, d.fFrom, d.fUntil]).2 ⟨rfl, hfit⟩
  have hp := (pt_iff (pointL d.fAtX d.fAtY) d.fAtX d.fAtY).2 ⟨rfl, hpt⟩
  exact work3_of (by rw [bs_list]; exact hp) (by rw [bs_list]; exact hr.1) (by rw [bs_list]; exact hr.2) hc
theorem workRd_iff (s : ByteArray) (d : WorkD) : workRd s = some d ↔ (okW d = true ∧ txW d = s.data.toList) := by
  constructor
  · intro h
    obtain ⟨p, b, h1, h2, h3, h4⟩ := work3_some h
    have hl := ((rd_iff _ _).1 h3).1
    have hp := ((pt_iff _ _ _).1 h2).1
    refine ⟨h4, ?_⟩
    have hc : cutAt 32 s.data.toList = [d.fName.data.toList, p.data.toList, b.data.toList] := by
      have := congrArg (List.map fun x : ByteArray => x.data.toList) h1
      rw [cutB, List.map_map] at this
      rw [← List.map_id (cutAt 32 s.data.toList)]
      refine Eq.trans (List.map_congr_left fun p _ => ?_) this
      exact (bs_list p).symm
    have := jn_cutAt 32 s.data.toList
    rw [hc, jn_cons, jn_cons] at this
    rw [← this, txW, workT, ← hl, ← hp]
    simp [jn]
  · rintro ⟨h1, h2⟩
    have hc : cutB 32 s.data.toList = [d.fName, bs (pointL d.fAtX d.fAtY), bs (lW d)] := by
      rw [cutB, (work_cut h1 h2).1]
      simp [bs_self]
    rw [workRd, hc]
    exact work_back h1 h1
theorem workRdI_eq (s : ByteArray) : workRdI s = workRd s := by
  have key : ∀ d, workRdI s = some d ↔ workRd s = some d := by
    intro d
    rw [workRd_iff]
    constructor
    · intro h
      obtain ⟨p, b, h1, h2, h3, h4⟩ := work3_some h
      have he : workR d.fName d.fAtX d.fAtY d.fLoad d.fMinutes d.fFrom d.fUntil = s := by
        have := beq_iff_eq.1 h4
        rw [ByteArray.toList_eq, ByteArray.toList_eq] at this
        rw [← bs_self s, ← this, bs_self]
      cases hq : okW d with
      | false =>
        rw [workR, show workB d.fName d.fAtX d.fAtY d.fLoad d.fMinutes d.fFrom d.fUntil = false from hq] at he
        rw [← he] at h1
        have h5 := congrArg List.length h1
        exact absurd h5 (by show ¬ ((0 : Nat) = 3); decide)
      | true =>
        rw [workR, show workB d.fName d.fAtX d.fAtY d.fLoad d.fMinutes d.fFrom d.fUntil = true from hq, if_pos rfl] at he
        exact ⟨rfl, by rw [← he, bs_list]; rfl⟩
    · rintro ⟨h1, h2⟩
      obtain ⟨hc, hne⟩ := work_cut h1 h2
      have hw : (wordsL s.data.toList).map bs = [d.fName, bs (pointL d.fAtX d.fAtY), bs (lW d)] := by
        rw [wordsL, hc]
        have h3 : lW d ≠ [] := listL_ne _
        have h4 := pointL_ne d.fAtX d.fAtY
        have e : ∀ l : List UInt8, l ≠ [] → (!l.isEmpty) = true := fun l hl => by cases l with | nil => exact absurd rfl hl | cons _ _ => rfl
        simp only [List.filter_cons, e _ hne, e _ h3, e _ h4, if_true, List.filter_nil, List.map_cons, List.map_nil, bs_self]
      rw [workRdI, hw]
      refine work_back h1 ?_
      have h5 : workB d.fName d.fAtX d.fAtY d.fLoad d.fMinutes d.fFrom d.fUntil = true := h1
      have h6 : workT d.fName d.fAtX d.fAtY d.fLoad d.fMinutes d.fFrom d.fUntil = s.data.toList := h2
      rw [workEq, workR, h5, if_pos rfl, ByteArray.toList_eq, ByteArray.toList_eq, bs_list, h6]
      simp
  cases h : workRd s with
  | some d => exact (key d).2 h
  | none =>
    cases h2 : workRdI s with
    | none => rfl
    | some d => rw [(key d).1 h2] at h; cases h
def zWork : WorkD := ⟨⟨#[]⟩, 0, 0, 0, 0, 0, 0⟩
def workA (d : WorkD) : Value := .agg #[.string d.fName, .int .i64 d.fAtX, .int .i64 d.fAtY, .int .i64 d.fLoad, .int .i64 d.fMinutes, .int .i64 d.fFrom, .int .i64 d.fUntil]
def WorkPost (o : Option WorkD) (w : World) (e : Ending) (w' : World) : Prop :=
  e = .returned (.tuple #[workA (o.getD zWork), .bool o.isSome]) ∧ Below w.heap.size w w'
theorem workPost_none {o : Option WorkD} {w w' : World} (h : Below w.heap.size w w') (ho : o = none) : WorkPost o w (.returned (.tuple #[.agg #[.string ⟨#[]⟩, .int .i64 0, .int .i64 0, .int .i64 0, .int .i64 0, .int .i64 0, .int .i64 0], .bool false])) w' := by
  subst ho; exact ⟨rfl, h⟩
theorem workPost_some {o : Option WorkD} {w w' : World} (h : Below w.heap.size w w') {a : ByteArray} {x y l m f u : Int} (ho : o = some ⟨a, x, y, l, m, f, u⟩) : WorkPost o w (.returned (.tuple #[.agg #[.string a, .int .i64 x, .int .i64 y, .int .i64 l, .int .i64 m, .int .i64 f, .int .i64 u], .bool true])) w' := by
  subst ho; exact ⟨rfl, h⟩
def workV (s : ByteArray) : WorkD := (workRd s).getD zWork
def workOk (s : ByteArray) : Bool := (workRd s).isSome
def WorkP (s : ByteArray) (w : World) (e : Ending) (w' : World) : Prop := e = .returned (.tuple #[.agg #[.string (workV s).fName, .int .i64 (workV s).fAtX, .int .i64 (workV s).fAtY, .int .i64 (workV s).fLoad, .int .i64 (workV s).fMinutes, .int .i64 (workV s).fFrom, .int .i64 (workV s).fUntil], .bool (workOk s)]) ∧ Below w.heap.size w w'
end Go.Proofs.YtabbhlehbhadiaaGreatDoor
