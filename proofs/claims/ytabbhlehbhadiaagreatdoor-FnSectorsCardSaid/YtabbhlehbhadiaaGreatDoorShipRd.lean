/- A ship read, both sides. -/
import Derived.Test.YtabbhlehbhadiaaGreatDoorReadI
import Derived.Test.YtabbhlehbhadiaaGreatDoorSrc
import Derived.Deep.RegionHeld3
namespace Go.Proofs.YtabbhlehbhadiaaGreatDoor
open Go.RowKit Go.Sort
set_option linter.unusedVariables false
set_option maxRecDepth 100000

def ship3 (a : ByteArray) (c : ByteArray → Int → Int → Int → Bool) : List Int → Option ShipD
  | [x, y, z] => if c a x y z then some ⟨a, x, y, z⟩ else none
  | _ => none
def ship2 (c : ByteArray → Int → Int → Int → Bool) : List ByteArray → Option ShipD
  | [a, b] => if rdB b.data.toList then ship3 a c (rdX b.data.toList) else none
  | _ => none
theorem ship2_some {c : ByteArray → Int → Int → Int → Bool} {ps : List ByteArray} {d : ShipD} (h : ship2 c ps = some d) :
    ∃ b, ps = [d.fName, b] ∧ rdB b.data.toList = true ∧ rdX b.data.toList = [d.fSpeed, d.fLoad, d.fDraught] ∧ c d.fName d.fSpeed d.fLoad d.fDraught = true := by
  match ps, h with
  | [a, b], h =>
    simp only [ship2] at h
    cases hr : rdB b.data.toList with
    | false => rw [hr] at h; cases h
    | true =>
      rw [hr, if_pos rfl] at h
      match hx : rdX b.data.toList, h with
      | [x, y, z], h =>
        simp only [ship3] at h
        cases hc : c a x y z with
        | false => rw [hc] at h; cases h
        | true =>
          rw [hc, if_pos rfl] at h
          injection h with h
          subst h
          exact ⟨b, rfl, hr, hx, hc⟩
      | [], h => cases h
      | [_], h => cases h
      | [_, _], h => cases h
      | _ :: _ :: _ :: _ :: _, h => cases h
  | [], h => cases h
  | [_], h => cases h
  | _ :: _ :: _ :: _, h => cases h
theorem ship2_of {c : ByteArray → Int → Int → Int → Bool} {a b : ByteArray} {x y z : Int} (hr : rdB b.data.toList = true) (hx : rdX b.data.toList = [x, y, z]) (hc : c a x y z = true) : ship2 c [a, b] = some ⟨a, x, y, z⟩ := by
  simp only [ship2, hr, if_true, hx, ship3, hc]
def shipRd (s : ByteArray) : Option ShipD := ship2 shipB (cutB 32 s.data.toList)
def shipEq (s : ByteArray) (a : ByteArray) (x y z : Int) : Bool := (shipR a x y z).toList == s.toList
def shipRdI (s : ByteArray) : Option ShipD := ship2 (shipEq s) ((wordsL s.data.toList).map bs)
theorem shipRd_iff (s : ByteArray) (d : ShipD) : shipRd s = some d ↔ (shipB d.fName d.fSpeed d.fLoad d.fDraught = true ∧ shipT d.fName d.fSpeed d.fLoad d.fDraught = s.data.toList) := by
  constructor
  · intro h
    obtain ⟨b, h1, h2, h3, h4⟩ := ship2_some h
    have hl := ((rd_iff _ _).1 ⟨h2, h3⟩).1
    refine ⟨h4, ?_⟩
    have hc : cutAt 32 s.data.toList = [d.fName.data.toList, b.data.toList] := by
      have := congrArg (List.map fun x : ByteArray => x.data.toList) h1
      rw [cutB, List.map_map] at this
      rw [← List.map_id (cutAt 32 s.data.toList)]
      refine Eq.trans (List.map_congr_left fun p _ => ?_) this
      exact (bs_list p).symm
    have := jn_cutAt 32 s.data.toList
    rw [hc, jn_cons] at this
    rw [← this, shipT, ← hl]
    simp [jn]
  · rintro ⟨h1, h2⟩
    have hn : nameB d.fName = true := by simp only [shipB, Bool.and_eq_true] at h1; exact h1.1.1.1
    obtain ⟨n1, n2⟩ := name_no32 hn
    have hc : cutB 32 s.data.toList = [d.fName, bs (listL [d.fSpeed, d.fLoad, d.fDraught])] := by
      rw [← h2, shipT, cutB, cutAt_app 32 _ _ n1, cutAt_clean 32 _ (listL_no32 _)]
      simp [bs_self]
    have hr := (rd_iff (listL [d.fSpeed, d.fLoad, d.fDraught]) [d.fSpeed, d.fLoad, d.fDraught]).2 ⟨rfl, (ship_fits h1).1⟩
    rw [shipRd, hc]
    exact ship2_of (by rw [bs_list]; exact hr.1) (by rw [bs_list]; exact hr.2) h1
theorem shipRdI_eq (s : ByteArray) : shipRdI s = shipRd s := by
  have key : ∀ d, shipRdI s = some d ↔ shipRd s = some d := by
    intro d
    rw [shipRd_iff]
    constructor
    · intro h
      obtain ⟨b, h1, h2, h3, h4⟩ := ship2_some h
      have he : shipR d.fName d.fSpeed d.fLoad d.fDraught = s := by
        have := beq_iff_eq.1 h4
        rw [ByteArray.toList_eq, ByteArray.toList_eq] at this
        rw [← bs_self s, ← this, bs_self]
      cases hq : shipB d.fName d.fSpeed d.fLoad d.fDraught with
      | false =>
        rw [shipR, hq] at he
        rw [← he] at h1
        have h5 := congrArg List.length h1
        exact absurd h5 (by show ¬ ((0 : Nat) = 2); decide)
      | true =>
        rw [shipR, hq, if_pos rfl] at he
        exact ⟨rfl, by rw [← he, bs_list]⟩
    · rintro ⟨h1, h2⟩
      have hn : nameB d.fName = true := by simp only [shipB, Bool.and_eq_true] at h1; exact h1.1.1.1
      obtain ⟨n1, n2⟩ := name_no32 hn
      have hw : (wordsL s.data.toList).map bs = [d.fName, bs (listL [d.fSpeed, d.fLoad, d.fDraught])] := by
        have h3 := listL_ne [d.fSpeed, d.fLoad, d.fDraught]
        rw [wordsL, ← h2, shipT, cutAt_app 32 _ _ n1, cutAt_clean 32 _ (listL_no32 _)]
        cases hn1 : d.fName.data.toList with
        | nil => exact absurd hn1 n2
        | cons p r =>
          cases hn2 : listL [d.fSpeed, d.fLoad, d.fDraught] with
          | nil => exact absurd hn2 h3
          | cons q t =>
            show [bs (p :: r), bs (q :: t)] = _
            rw [← hn1, bs_self]
      have hr := (rd_iff (listL [d.fSpeed, d.fLoad, d.fDraught]) [d.fSpeed, d.fLoad, d.fDraught]).2 ⟨rfl, (ship_fits h1).1⟩
      rw [shipRdI, hw]
      refine ship2_of (by rw [bs_list]; exact hr.1) (by rw [bs_list]; exact hr.2) ?_
      rw [shipEq, shipR, h1, if_pos rfl, ByteArray.toList_eq, ByteArray.toList_eq, bs_list, h2]
      simp
  cases h : shipRd s with
  | some d => exact (key d).2 h
  | none =>
    cases h2 : shipRdI s with
    | none => rfl
    | some d => rw [(key d).1 h2] at h; cases h
def zShip : ShipD := ⟨⟨#[]⟩, 0, 0, 0⟩
def ShipPost (o : Option ShipD) (w : World) (e : Ending) (w' : World) : Prop :=
  e = .returned (.tuple #[.agg #[.string (o.getD zShip).fName, .int .i64 (o.getD zShip).fSpeed, .int .i64 (o.getD zShip).fLoad, .int .i64 (o.getD zShip).fDraught], .bool o.isSome]) ∧ Below w.heap.size w w'
theorem shipPost_none {o : Option ShipD} {w w' : World} (h : Below w.heap.size w w') (ho : o = none) : ShipPost o w (.returned (.tuple #[.agg #[.string ⟨#[]⟩, .int .i64 0, .int .i64 0, .int .i64 0], .bool false])) w' := by
  subst ho; exact ⟨rfl, h⟩
theorem shipPost_some {o : Option ShipD} {w w' : World} (h : Below w.heap.size w w') {a : ByteArray} {x y z : Int} (ho : o = some ⟨a, x, y, z⟩) : ShipPost o w (.returned (.tuple #[.agg #[.string a, .int .i64 x, .int .i64 y, .int .i64 z], .bool true])) w' := by
  subst ho; exact ⟨rfl, h⟩
theorem two_of {xs : List ByteArray} (h : xs.length = 2) : ∃ a b, xs = [a, b] := by
  match xs, h with
  | [a, b], _ => exact ⟨a, b, rfl⟩
theorem three_of {xs : List Int} (h : xs.length = 3) : ∃ a b c, xs = [a, b, c] := by
  match xs, h with
  | [a, b, c], _ => exact ⟨a, b, c, rfl⟩
theorem ship2_len {c : ByteArray → Int → Int → Int → Bool} {ps : List ByteArray} (h : ps.length ≠ 2) : ship2 c ps = none := by
  match ps, h with
  | [], _ => rfl
  | [_], _ => rfl
  | [_, _], h => exact absurd rfl h
  | _ :: _ :: _ :: _, _ => rfl
theorem ship3_len {c : ByteArray → Int → Int → Int → Bool} {a : ByteArray} {xs : List Int} (h : xs.length ≠ 3) : ship3 a c xs = none := by
  match xs, h with
  | [], _ => rfl
  | [_], _ => rfl
  | [_, _], _ => rfl
  | [_, _, _], h => exact absurd rfl h
  | _ :: _ :: _ :: _ :: _, _ => rfl
theorem rdX_i64 {l : List UInt8} : ∀ x ∈ rdX l, I64 x := by
  intro x hx
  unfold rdX at hx
  split at hx
  · cases hx
  · split at hx
    · obtain ⟨y, _, rfl⟩ := List.mem_map.1 hx; exact numV_i64 _
    · cases hx
theorem cell_int {w : World} {lo : Nat} {ad : Option Addr} {cap n : Nat} {xs : List Int} (h : SlA w lo 1 encI (.slice ad n cap) xs) (hn : n = xs.length) {k : Nat} (hk : k < xs.length) :
    ∃ bb off, ad = some ⟨bb, off, none⟩ ∧ lo ≤ bb ∧ bb < w.heap.size ∧ ∀ k, (hk : k < xs.length) → w.cell? ⟨bb, off + k, none⟩ = some (.int .i64 xs[k]) := by
  rcases h with ⟨a', c', e', hx', _⟩ | ⟨b', off', c', e', hp', hc', hm', hlo', hbb', hcell'⟩
  · rw [hx'] at hk; simp at hk
  · simp only [Value.slice.injEq] at e'
    obtain ⟨rfl, -, rfl⟩ := e'
    exact ⟨b', off', rfl, hlo', hbb', fun k hk => by simpa [encI] using hcell' k hk 0 (by omega)⟩
theorem cell_str {w : World} {lo : Nat} {ad : Option Addr} {cap n : Nat} {xs : List ByteArray} (h : SlA w lo 1 encT (.slice ad n cap) xs) (hn : n = xs.length) {k : Nat} (hk : k < xs.length) :
    ∃ bb off, ad = some ⟨bb, off, none⟩ ∧ lo ≤ bb ∧ bb < w.heap.size ∧ ∀ k, (hk : k < xs.length) → w.cell? ⟨bb, off + k, none⟩ = some (.string xs[k]) := by
  rcases h with ⟨a', c', e', hx', _⟩ | ⟨b', off', c', e', hp', hc', hm', hlo', hbb', hcell'⟩
  · rw [hx'] at hk; simp at hk
  · simp only [Value.slice.injEq] at e'
    obtain ⟨rfl, -, rfl⟩ := e'
    exact ⟨b', off', rfl, hlo', hbb', fun k hk => by simpa [encT] using hcell' k hk 0 (by omega)⟩
theorem words_size (s : ByteArray) : ∀ x ∈ (wordsL s.data.toList).map bs, x.size ≤ s.size := by
  intro x hx
  rw [words_map] at hx
  exact cutB_size 32 s x (List.mem_filter.1 hx).1
def shipV (s : ByteArray) : ShipD := (shipRd s).getD zShip
def shipOk (s : ByteArray) : Bool := (shipRd s).isSome
end Go.Proofs.YtabbhlehbhadiaaGreatDoor
namespace Go.Proofs.YtabbhlehbhadiaaGreatDoor
open Go.RowKit Go.Sort
set_option linter.unusedVariables false
set_option maxRecDepth 100000

def px (l : List UInt8) : List UInt8 := (Lib.cut l [44]).1
def py (l : List UInt8) : List UInt8 := (Lib.cut l [44]).2.1
def ptB (l : List UInt8) : Bool := numB (px l) && numB (py l) && pointB (numV (px l)) (numV (py l))
def ptX (l : List UInt8) : Int := if ptB l then numV (px l) else 0
def ptY (l : List UInt8) : Int := if ptB l then numV (py l) else 0
theorem cut_hit {l a b : List UInt8} (h : l = a ++ 44 :: b) (ha : (44 : UInt8) ∉ a) : px l = a ∧ py l = b := by
  rcases index_one 44 l with ⟨h1, h2⟩ | ⟨i, h1, h2, h3, h4⟩
  · exact absurd (by rw [h]; simp) h2
  · have e1 : px l = l.take i ∧ py l = l.drop (i + 1) := by
      unfold px py Lib.cut
      rw [h1, if_pos (by omega)]
      simp
    have c1 := cutAt_app 44 b a ha
    rw [← h] at c1
    have c2 := cutAt_app 44 (l.drop (i + 1)) (l.take i) h3
    rw [← h4] at c2
    rw [c1] at c2
    injection c2 with e2 e3
    refine ⟨e1.1.trans e2.symm, ?_⟩
    rw [e1.2]
    have h5 := h4.symm.trans h
    rw [← e2] at h5
    have h6 := List.append_cancel_left h5
    injection h6
theorem cut_miss {l : List UInt8} (h : (44 : UInt8) ∉ l) : py l = [] := by
  rcases index_one 44 l with ⟨h1, h2⟩ | ⟨i, h1, h2, h3, h4⟩
  · unfold py Lib.cut
    rw [h1, if_neg (by omega)]
  · exact absurd (by rw [h4]; simp) h
theorem numB_nil : numB [] = false := by
  cases h : numB [] with
  | false => rfl
  | true => exact absurd ((numL_iff _ _).1 (num_of_true h)).1 (itoa_ne _)
theorem numB_itoa {l : List UInt8} (h : numB l = true) : l = Lib.itoa (numV l) := ((numL_iff _ _).1 (num_of_true h)).1.symm
theorem numB_44 {l : List UInt8} (h : (44 : UInt8) ∈ l) : numB l = false := by
  cases hq : numB l with
  | false => rfl
  | true => rw [numB_itoa hq] at h; exact absurd h (itoa_no44 _)
theorem pt_app {l : List UInt8} (h : numB (py l) = true) : l = px l ++ 44 :: py l := by
  by_cases h1 : (44 : UInt8) ∈ l
  · rcases index_one 44 l with ⟨h2, h3⟩ | ⟨i, h2, _, h3, h4⟩
    · exact absurd h1 h3
    · have := cut_hit h4 h3
      rw [this.1, this.2]; exact h4
  · rw [cut_miss h1, numB_nil] at h; cases h
theorem pt_two {l : List UInt8} {a b : ByteArray} (h : cutB 44 l = [a, b]) : px l = a.data.toList ∧ py l = b.data.toList := by
  have hc : cutAt 44 l = [a.data.toList, b.data.toList] := by
    have := congrArg (List.map fun x : ByteArray => x.data.toList) h
    rw [cutB, List.map_map] at this
    rw [← List.map_id (cutAt 44 l)]
    refine Eq.trans (List.map_congr_left fun p _ => ?_) this
    exact (bs_list p).symm
  refine cut_hit ?_ (cutAt_no 44 l _ (by rw [hc]; simp))
  have := jn_cutAt 44 l
  rw [hc, jn_cons] at this
  rw [← this]; simp [jn]
theorem pt_not {l : List UInt8} (h : (cutB 44 l).length ≠ 2) : ptB l = false := by
  rw [cutB, List.length_map] at h
  have : numB (py l) = false := by
    cases hq : numB (py l) with
    | false => rfl
    | true =>
      have h1 := pt_app hq
      have h2 : (44 : UInt8) ∉ py l := fun e => by rw [numB_44 e] at hq; cases hq
      have h3 : (44 : UInt8) ∉ px l := by
        rcases index_one 44 l with ⟨h4, h5⟩ | ⟨i, h4, _, h5, h6⟩
        · exact fun e => h5 (by rw [h1]; exact List.mem_append_left _ e)
        · rw [(cut_hit h6 h5).1]; exact h5
      rw [h1, cutAt_app 44 _ _ h3, cutAt_clean 44 _ h2] at h
      exact absurd rfl h
  simp [ptB, this]
theorem point_range {x y : Int} (h : pointB x y = true) : (-1000000000000 ≤ x ∧ x ≤ 1000000000000) ∧ (-1000000000000 ≤ y ∧ y ≤ 1000000000000) := by
  simp only [pointB, Bool.and_eq_true] at h
  have h1 := inB_true h.1
  have h2 := inB_true h.2
  omega
theorem pt_iff (l : List UInt8) (x y : Int) : (ptB l = true ∧ ptX l = x ∧ ptY l = y) ↔ (pointL x y = l ∧ pointB x y = true) := by
  constructor
  · rintro ⟨h1, h2, h3⟩
    rw [ptX, h1, if_pos rfl] at h2
    rw [ptY, h1, if_pos rfl] at h3
    simp only [ptB, Bool.and_eq_true] at h1
    rw [h2, h3] at h1
    refine ⟨?_, h1.2⟩
    have e1 := numB_itoa h1.1.1
    have e2 := numB_itoa h1.1.2
    rw [h2] at e1
    rw [h3] at e2
    rw [pt_app h1.1.2, pointL, ← e1, ← e2]
  · rintro ⟨h1, h2⟩
    have hr := point_range h2
    have hc := cut_hit (l := l) (a := Lib.itoa x) (b := Lib.itoa y) h1.symm (itoa_no44 x)
    have n1 := num_some (num_itoa hr.1)
    have n2 := num_some (num_itoa hr.2)
    have hb : ptB l = true := by rw [ptB, hc.1, hc.2, n1.1, n1.2, n2.1, n2.2, h2]; rfl
    refine ⟨hb, ?_, ?_⟩
    · rw [ptX, hb, if_pos rfl, hc.1, n1.1]
    · rw [ptY, hb, if_pos rfl, hc.2, n2.1]
theorem pt_i64 (l : List UInt8) : I64 (ptX l) ∧ I64 (ptY l) := by
  unfold ptX ptY
  have h0 : I64 0 := by unfold I64; omega
  split
  · exact ⟨numV_i64 _, numV_i64 _⟩
  · exact ⟨h0, h0⟩
def PtPost (l : List UInt8) (w : World) (e : Ending) (w' : World) : Prop :=
  e = .returned (.tuple #[.agg #[.int .i64 (ptX l), .int .i64 (ptY l)], .bool (ptB l)]) ∧ Below w.heap.size w w'
theorem ptPost_no {l : List UInt8} {w w' : World} (h : Below w.heap.size w w') (hn : ptB l = false) : PtPost l w (.returned (.tuple #[.agg #[.int .i64 0, .int .i64 0], .bool false])) w' := by
  refine ⟨?_, h⟩
  rw [ptX, ptY, hn]; rfl
theorem ptPost_ok {l : List UInt8} {w w' : World} (h : Below w.heap.size w w') {x y : Int} (h1 : numB (px l) = true) (h2 : numB (py l) = true) (hx : numV (px l) = x) (hy : numV (py l) = y) (h3 : pointB x y = true) : PtPost l w (.returned (.tuple #[.agg #[.int .i64 x, .int .i64 y], .bool true])) w' := by
  have hb : ptB l = true := by rw [ptB, h1, h2, hx, hy, h3]; rfl
  refine ⟨?_, h⟩
  rw [ptX, ptY, hb, if_pos rfl, if_pos rfl, hx, hy]
theorem cut_sizes (s : ByteArray) : (px s.data.toList).length ≤ s.size ∧ (py s.data.toList).length ≤ s.size := by
  have h0 : s.data.toList.length = s.size := Array.length_toList
  unfold px py Lib.cut
  split
  · simp only [List.length_take, List.length_drop]; omega
  · simp only [List.length_nil]; omega
end Go.Proofs.YtabbhlehbhadiaaGreatDoor
