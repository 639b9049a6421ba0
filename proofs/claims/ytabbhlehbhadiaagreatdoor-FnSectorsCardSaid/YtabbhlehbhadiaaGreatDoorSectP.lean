/- A sector read, both sides' ways. Plain. -/
import Derived.Test.YtabbhlehbhadiaaGreatDoorShipRd
import Derived.Test.YtabbhlehbhadiaaGreatDoorSectT
namespace Go.Proofs.YtabbhlehbhadiaaGreatDoor
open Go.RowKit Go.Sort
set_option linter.unusedVariables false

def toP (r : List UInt8) : List UInt8 := r.take (r.length - 1)
def coP (r : List UInt8) : List UInt8 := r.drop (r.length - 1)
def secV (a r : List UInt8) : SectorD := ⟨numV a, numV (toP r), bs (coP r)⟩
/-- the reference's way: split at the dash -/
def secP (p : List UInt8) : Option SectorD :=
  match cutAt 45 p with
  | [a, r] => if decide (2 ≤ r.length) && numB a && numB (toP r) then some (secV a r) else none
  | _ => none
/-- the program's way: cut at the first dash -/
def secQ (p : List UInt8) : Option SectorD :=
  if decide ((Lib.cut p [45]).2.1 ≠ []) && numB (Lib.cut p [45]).1 && numB (toP (Lib.cut p [45]).2.1) then some (secV (Lib.cut p [45]).1 (Lib.cut p [45]).2.1) else none
theorem cut45_hit {l a b : List UInt8} (h : l = a ++ 45 :: b) (ha : (45 : UInt8) ∉ a) : (Lib.cut l [45]).1 = a ∧ (Lib.cut l [45]).2.1 = b := by
  rcases index_one 45 l with ⟨h1, h2⟩ | ⟨i, h1, h2, h3, h4⟩
  · exact absurd (by rw [h]; simp) h2
  · have e1 : (Lib.cut l [45]).1 = l.take i ∧ (Lib.cut l [45]).2.1 = l.drop (i + 1) := by
      unfold Lib.cut
      rw [h1, if_pos (by omega)]
      simp
    have c1 := cutAt_app 45 b a ha
    rw [← h] at c1
    have c2 := cutAt_app 45 (l.drop (i + 1)) (l.take i) h3
    rw [← h4] at c2
    rw [c1] at c2
    injection c2 with e2 e3
    refine ⟨e1.1.trans e2.symm, ?_⟩
    rw [e1.2]
    have h5 := h4.symm.trans h
    rw [← e2] at h5
    have h6 := List.append_cancel_left h5
    injection h6
theorem cut45_ne {l : List UInt8} (h : (Lib.cut l [45]).2.1 ≠ []) : l = (Lib.cut l [45]).1 ++ 45 :: (Lib.cut l [45]).2.1 := by
  rcases index_one 45 l with ⟨h1, h2⟩ | ⟨i, h1, h2, h3, h4⟩
  · exact absurd (by unfold Lib.cut; rw [h1, if_neg (by omega)]) h
  · have := cut45_hit h4 h3
    rw [this.1, this.2]; exact h4
theorem to_co (r : List UInt8) : r = toP r ++ coP r := by simp [toP, coP]
theorem secV_text {a r : List UInt8} (h1 : numB a = true) (h2 : numB (toP r) = true) : secL (secV a r) = a ++ 45 :: r := by
  rw [secL]
  show Lib.itoa (numV a) ++ 45 :: (Lib.itoa (numV (toP r)) ++ (bs (coP r)).data.toList) = _
  rw [← numB_itoa h1, ← numB_itoa h2, bs_list, ← to_co]
theorem secQ_some {p : List UInt8} {d : SectorD} (h : secQ p = some d) : secL d = p := by
  unfold secQ at h
  split at h
  · rename_i hc
    simp only [Bool.and_eq_true, decide_eq_true_eq] at hc
    injection h with h
    rw [← h, secV_text hc.1.2 hc.2]
    exact (cut45_ne hc.1.1).symm
  · cases h
theorem secP_some {p : List UInt8} {d : SectorD} (h : secP p = some d) : secL d = p := by
  unfold secP at h
  split at h
  · rename_i a r hc
    split at h
    · rename_i hb
      simp only [Bool.and_eq_true] at hb
      injection h with h
      have hj := jn_cutAt 45 p
      rw [hc, jn_cons] at hj
      rw [← h, secV_text hb.1.2 hb.2, ← hj]
      simp [jn]
    · cases h
  · cases h
theorem itoa_no45 {n : Int} (h : 0 ≤ n) : (45 : UInt8) ∉ Lib.itoa n := by
  intro e
  unfold Lib.itoa at e
  rw [if_neg (by omega)] at e
  have := dec_digits n.toNat 45 e
  simp at this
theorem colB_no {c : ByteArray} (h : colB c = true) : ∃ x, c = ⟨#[x]⟩ ∧ x ≠ 45 ∧ x ≠ 44 := by
  have h1 := colB_one h
  obtain ⟨⟨l⟩⟩ := c
  match l, h1 with
  | [x], _ =>
    have e : (ByteArray.mk #[x]).toList = [x] := by rw [ByteArray.toList_eq]
    unfold colB at h
    rw [e] at h
    refine ⟨x, rfl, ?_, ?_⟩
    · intro e2; subst e2; exact absurd h (by decide)
    · intro e2; subst e2; exact absurd h (by decide)
theorem sec_shape {d : SectorD} (h : sectB d.fFrom d.fTo d.fColor = true) :
    (0 ≤ d.fFrom ∧ d.fFrom ≤ 359) ∧ (0 ≤ d.fTo ∧ d.fTo ≤ 359) ∧ ∃ x, d.fColor = ⟨#[x]⟩ ∧ x ≠ 45 ∧ x ≠ 44 := by
  simp only [sectB, Bool.and_eq_true] at h
  have h1 := inB_true h.1
  have h2 := inB_true h.2.1
  exact ⟨by omega, by omega, colB_no h.2.2⟩
theorem sec_back {d : SectorD} (h : sectB d.fFrom d.fTo d.fColor = true) : secP (secL d) = some d ∧ secQ (secL d) = some d := by
  obtain ⟨hf, ht, x, hx, hx1, -⟩ := sec_shape h
  have n1 := num_some (num_itoa (n := d.fFrom) (by omega))
  have n2 := num_some (num_itoa (n := d.fTo) (by omega))
  have hcol : d.fColor.data.toList = [x] := by rw [hx]
  have hne : 1 ≤ (Lib.itoa d.fTo).length := by
    cases hq : Lib.itoa d.fTo with
    | nil => exact absurd hq (itoa_ne _)
    | cons _ _ => simp
  have hto : toP (Lib.itoa d.fTo ++ [x]) = Lib.itoa d.fTo := by simp [toP]
  have hco : coP (Lib.itoa d.fTo ++ [x]) = [x] := by simp [coP]
  have hv : secV (Lib.itoa d.fFrom) (Lib.itoa d.fTo ++ [x]) = d := by
    rw [secV, hto, hco, n1.1, n2.1]
    cases d
    simp only at hx
    rw [hx]; rfl
  have h45 : (45 : UInt8) ∉ Lib.itoa d.fTo ++ [x] := by
    simp only [List.mem_append, List.mem_singleton, not_or]
    exact ⟨itoa_no45 ht.1, fun e => hx1 e.symm⟩
  have hL : secL d = Lib.itoa d.fFrom ++ 45 :: (Lib.itoa d.fTo ++ [x]) := by rw [secL, hcol]
  constructor
  · rw [secP, hL, cutAt_app 45 _ _ (itoa_no45 hf.1), cutAt_clean 45 _ h45]
    simp only
    rw [hto, n1.2, n2.2, hv, if_pos]
    simp; omega
  · have hc := cut45_hit hL (itoa_no45 hf.1)
    rw [secQ, hc.1, hc.2, hto, n1.2, n2.2, hv, if_pos]
    simp
theorem secL_no44 {d : SectorD} (h : sectB d.fFrom d.fTo d.fColor = true) : (44 : UInt8) ∉ secL d := by
  obtain ⟨-, -, x, hx, -, hx2⟩ := sec_shape h
  have hcol : d.fColor.data.toList = [x] := by rw [hx]
  rw [secL, hcol]
  simp only [List.mem_append, List.mem_cons, List.not_mem_nil, or_false, not_or]
  exact ⟨itoa_no44 _, by decide, itoa_no44 _, fun e => hx2 e.symm⟩
end Go.Proofs.YtabbhlehbhadiaaGreatDoor
namespace Go.Proofs.YtabbhlehbhadiaaGreatDoor
open Go.RowKit Go.Sort
set_option linter.unusedVariables false

def secsO (f : List UInt8 → Option SectorD) : List (List UInt8) → Option (List SectorD)
  | [] => some []
  | p :: r => match f p, secsO f r with
    | some d, some l => some (d :: l)
    | _, _ => none
theorem secsO_some {f : List UInt8 → Option SectorD} (hf : ∀ p d, f p = some d → secL d = p) : ∀ {ps : List (List UInt8)} {xs : List SectorD}, secsO f ps = some xs → xs.map secL = ps
  | [], xs, h => by injection h with h; subst h; rfl
  | p :: r, xs, h => by
    simp only [secsO] at h
    split at h
    · rename_i d l h1 h2
      injection h with h
      subst h
      rw [List.map_cons, hf _ _ h1, secsO_some hf h2]
    · cases h
theorem secsO_of {f : List UInt8 → Option SectorD} : ∀ {xs : List SectorD}, (∀ x ∈ xs, f (secL x) = some x) → secsO f (xs.map secL) = some xs
  | [], _ => rfl
  | x :: r, h => by
    rw [List.map_cons, secsO, h x (by simp), secsO_of fun y hy => h y (by simp [hy])]
/-- one piece more at the end -/
theorem secsO_snoc {f : List UInt8 → Option SectorD} (p : List UInt8) : ∀ ps : List (List UInt8), secsO f (ps ++ [p]) = (match secsO f ps, f p with | some l, some d => some (l ++ [d]) | _, _ => none)
  | [] => by
    simp only [List.nil_append, secsO]
    cases f p <;> rfl
  | q :: r => by
    rw [List.cons_append, secsO, secsO_snoc p r, secsO]
    cases f q <;> cases secsO f r <;> cases f p <;> rfl
/-- a piece that is no sector spoils the whole -/
theorem secsO_bad {f : List UInt8 → Option SectorD} {p : List UInt8} (h : f p = none) : ∀ {ps : List (List UInt8)}, p ∈ ps → secsO f ps = none
  | q :: r, hm => by
    rw [secsO]
    rcases List.mem_cons.1 hm with rfl | hm
    · rw [h]
    · rw [secsO_bad h hm]; cases f q <;> rfl
theorem secsO_len {f : List UInt8 → Option SectorD} : ∀ {ps : List (List UInt8)} {xs : List SectorD}, secsO f ps = some xs → xs.length = ps.length
  | [], xs, h => by injection h with h; subst h; rfl
  | p :: r, xs, h => by
    simp only [secsO] at h
    split at h
    · rename_i d l h1 h2
      injection h with h
      subst h
      simp [secsO_len h2]
    · cases h
def secsRd (s : List UInt8) : Option (List SectorD) :=
  if s = [45] then some [] else if 12 < (cutAt 44 s).length then none else
    match secsO secP (cutAt 44 s) with
    | some xs => if secB xs then some xs else none
    | none => none
def secsRdI (s : List UInt8) : Option (List SectorD) :=
  if s = [45] then some [] else
    match secsO secQ (cutAt 44 s) with
    | some xs => if secB xs && (secsT xs == s) then some xs else none
    | none => none
theorem sec_of_secB {xs : List SectorD} (h : secB xs = true) : ∀ x ∈ xs, sectB x.fFrom x.fTo x.fColor = true := by
  simp only [secB, Bool.and_eq_true, allB_iff] at h
  intro x hx
  obtain ⟨i, hi, rfl⟩ := List.mem_iff_getElem.1 hx
  have h1 := h.2.1 i hi
  simp only [stepS, Bool.and_eq_true, oA_get hi] at h1
  exact h1.1
theorem secL_two (d : SectorD) : 2 ≤ (secL d).length := by
  cases hq : Lib.itoa d.fFrom with
  | nil => exact absurd hq (itoa_ne _)
  | cons a r => rw [secL, hq]; simp; omega
theorem secs_cut {xs : List SectorD} (h0 : xs ≠ []) (h : secB xs = true) : cutAt 44 (secsL xs) = xs.map secL ∧ secsL xs ≠ [45] := by
  have hc : cutAt 44 (secsL xs) = xs.map secL := cutAt_jn 44 _ (by simpa using h0) (fun p hp => by
    obtain ⟨x, hx, rfl⟩ := List.mem_map.1 hp
    exact secL_no44 (sec_of_secB h x hx))
  refine ⟨hc, fun e => ?_⟩
  have e2 : cutAt 44 (secsL xs) = [[45]] := by rw [e]; rfl
  rw [hc] at e2
  cases xs with
  | nil => exact h0 rfl
  | cons x r =>
    injection e2 with e2
    have := secL_two x
    rw [e2] at this
    simp at this
theorem cut_ne (c : UInt8) (l : List UInt8) : cutAt c l ≠ [] := by
  obtain ⟨p, r, h⟩ := cutAt_some c l
  rw [h]; simp
theorem secs_text {f : List UInt8 → Option SectorD} (hf : ∀ p d, f p = some d → secL d = p) {s : List UInt8} {xs : List SectorD} (h : secsO f (cutAt 44 s) = some xs) : secsT xs = s := by
  have hm := secsO_some hf h
  have h0 : xs ≠ [] := fun e => by subst e; exact cut_ne 44 s hm.symm
  rw [secsT, if_neg h0, secsL, hm, jn_cutAt]
theorem secsRd_iff (s : List UInt8) (xs : List SectorD) : secsRd s = some xs ↔ (secB xs = true ∧ secsT xs = s) := by
  constructor
  · intro h
    unfold secsRd at h
    split at h
    · rename_i h1
      injection h with h
      subst h
      exact ⟨by rfl, by rw [h1]; rfl⟩
    · split at h
      · cases h
      · split at h
        · rename_i ys hy
          split at h
          · rename_i hb
            injection h with h
            subst h
            exact ⟨hb, secs_text (fun _ _ => secP_some) hy⟩
          · cases h
        · cases h
  · rintro ⟨h1, h2⟩
    by_cases h0 : xs = []
    · subst h0
      rw [secsRd, if_pos (show s = [45] from h2.symm)]
    · rw [secsT, if_neg h0] at h2
      obtain ⟨hc, hn⟩ := secs_cut h0 h1
      have hl := (secB_in h1).1
      rw [← h2, secsRd, if_neg hn, hc, if_neg (by rw [List.length_map]; omega), secsO_of fun x hx => (sec_back (sec_of_secB h1 x hx)).1]
      simp [h1]
theorem secsRdI_eq (s : List UInt8) : secsRdI s = secsRd s := by
  have key : ∀ xs, secsRdI s = some xs ↔ secsRd s = some xs := by
    intro xs
    rw [secsRd_iff]
    constructor
    · intro h
      unfold secsRdI at h
      split at h
      · rename_i h1
        injection h with h
        subst h
        exact ⟨by rfl, by rw [h1]; rfl⟩
      · split at h
        · rename_i ys hy
          split at h
          · rename_i hb
            injection h with h
            subst h
            simp only [Bool.and_eq_true, beq_iff_eq] at hb
            exact hb
          · cases h
        · cases h
    · rintro ⟨h1, h2⟩
      by_cases h0 : xs = []
      · subst h0
        rw [secsRdI, if_pos (show s = [45] from h2.symm)]
      · have h2' := h2
        rw [secsT, if_neg h0] at h2'
        obtain ⟨hc, hn⟩ := secs_cut h0 h1
        rw [secsRdI, ← h2', if_neg hn, hc, secsO_of fun x hx => (sec_back (sec_of_secB h1 x hx)).2]
        simp [h1, secsT, h0]
  cases h : secsRd s with
  | some d => exact (key d).2 h
  | none =>
    cases h2 : secsRdI s with
    | none => rfl
    | some d => rw [(key d).1 h2] at h; cases h
end Go.Proofs.YtabbhlehbhadiaaGreatDoor
namespace Go.Proofs.YtabbhlehbhadiaaGreatDoor
open Go.RowKit Go.Sort
set_option linter.unusedVariables false
set_option maxRecDepth 100000

theorem one_encSec (y : SectorD) : ∀ u ∈ encSector y, u.oneCell' = true := by intro u hu; simp only [encSector, List.mem_cons, List.not_mem_nil, or_false] at hu; rcases hu with rfl | rfl | rfl <;> rfl
theorem lst_size (s : ByteArray) : s.data.toList.length = s.size := Array.length_toList
theorem cutB_two {c : UInt8} {l : List UInt8} {a b : ByteArray} (h : cutB c l = [a, b]) : cutAt c l = [a.data.toList, b.data.toList] := by
  have := congrArg (List.map fun x : ByteArray => x.data.toList) h
  rw [cutB, List.map_map] at this
  rw [← List.map_id (cutAt c l)]
  refine Eq.trans (List.map_congr_left fun p _ => ?_) this
  exact (bs_list p).symm
theorem toP_ext (r : ByteArray) : (r.extract 0 (r.size - 1)).data.toList = toP r.data.toList := by
  rw [ext_bs, bs_list, toP, lst_size]; simp
theorem coP_ext (r : ByteArray) : bs (coP r.data.toList) = r.extract (r.size - 1) r.size := by
  rw [ext_bs, coP, lst_size, List.take_of_length_le (by rw [List.length_drop, lst_size]; omega)]
theorem secP_two {p : List UInt8} {a r : ByteArray} (h : cutB 45 p = [a, r]) :
    secP p = if decide (2 ≤ r.size) && numB a.data.toList && numB (r.extract 0 (r.size - 1)).data.toList then some ⟨numV a.data.toList, numV (r.extract 0 (r.size - 1)).data.toList, r.extract (r.size - 1) r.size⟩ else none := by
  rw [secP, cutB_two h]
  simp only [lst_size, toP_ext, secV, coP_ext]
theorem secP_not {p : List UInt8} (h : (cutB 45 p).length ≠ 2) : secP p = none := by
  rw [cutB, List.length_map] at h
  unfold secP
  split
  · rename_i a r hc; rw [hc] at h; exact absurd rfl h
  · rfl
def SecsPost (o : Option (List SectorD)) (w : World) (e : Ending) (w' : World) : Prop :=
  ∃ v, e = .returned (.tuple #[v, .bool o.isSome]) ∧ Below w.heap.size w w' ∧ SlO w' w.heap.size 3 encSector v (o.getD [])
theorem secsPost_none {o : Option (List SectorD)} {w w' : World} (h : Below w.heap.size w w') (ho : o = none) : SecsPost o w (.returned (.tuple #[.slice none 0 0, .bool false])) w' := by
  subst ho; exact ⟨_, rfl, h, .inl ⟨none, 0, rfl, rfl, Nat.zero_le _⟩, fun g hg => by simp [Value.ownBlock] at hg⟩
theorem secsPost_some {o : Option (List SectorD)} {w w' : World} (h : Below w.heap.size w w') {xs : List SectorD} {v : Value} (ho : o = some xs) (hS : SlO w' w.heap.size 3 encSector v xs) : SecsPost o w (.returned (.tuple #[v, .bool true])) w' := by
  subst ho; exact ⟨v, rfl, h, hS⟩
theorem secsRd_dash {s : List UInt8} (h : s = [45]) : secsRd s = some [] := by rw [secsRd, if_pos h]
theorem secsRd_long {s : List UInt8} (h : s ≠ [45]) (hl : 12 < (cutAt 44 s).length) : secsRd s = none := by rw [secsRd, if_neg h, if_pos hl]
def secsV (o : Option (List SectorD)) : Option (List SectorD) := o.bind fun xs => if secB xs then some xs else none
theorem secsRd_go {s : List UInt8} (h : s ≠ [45]) (hl : ¬ 12 < (cutAt 44 s).length) : secsRd s = secsV (secsO secP (cutAt 44 s)) := by
  rw [secsRd, if_neg h, if_neg hl]
  cases secsO secP (cutAt 44 s) <;> rfl
theorem ok_secO {f : List UInt8 → Option SectorD} (hf : ∀ p d, f p = some d → okSector d) : ∀ {ps : List (List UInt8)} {xs : List SectorD}, secsO f ps = some xs → ∀ x ∈ xs, okSector x
  | [], xs, h => by injection h with h; subst h; intro x hx; cases hx
  | p :: r, xs, h => by
    simp only [secsO] at h
    split at h
    · rename_i d l h1 h2
      injection h with h
      subst h
      intro x hx
      rcases List.mem_cons.1 hx with rfl | hx
      · exact hf _ _ h1
      · exact ok_secO hf h2 x hx
    · cases h
theorem ok_secV (a r : List UInt8) : okSector (secV a r) := by
  refine ⟨numV_i64 _, numV_i64 _, ?_⟩
  show (bs (coP r)).size ≤ maxLen
  rw [bs_size, coP, List.length_drop]; unfold maxLen; omega
theorem ok_secP (p : List UInt8) (d : SectorD) (h : secP p = some d) : okSector d := by
  unfold secP at h
  split at h
  · split at h
    · injection h with h; subst h; exact ok_secV _ _
    · cases h
  · cases h
theorem slo_fresh3 (w : World) : SlO (w.alloc (.cells #[] 45)) w.heap.size 3 encSector (.slice (some ⟨w.heap.size, 0, none⟩) 0 0) [] := by
  refine ⟨.inl ⟨_, 0, rfl, rfl, Nat.zero_le _⟩, fun b hb => ?_⟩
  simp [Value.ownBlock] at hb
  subst hb
  exact ⟨by simp, Nat.le_refl _, fun j => World.frozen?_alloc_at _ _ _ _ rfl⟩
end Go.Proofs.YtabbhlehbhadiaaGreatDoor
