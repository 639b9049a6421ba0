/- Other bytes are never read as the same items. Plain. -/
import Derived.Test.YtabbhlehbhadiaaDoorDamC
import Derived.Test.YtabbhlehbhadiaaDoorArcS
import Derived.Test.YtabbhlehbhadiaaDoorSaveT
namespace Go.Proofs.YtabbhlehbhadiaaDoor
open Go.RowKit Go.Sort
set_option linter.unusedVariables false
set_option maxRecDepth 100000

def frB (d : ItemD) (c : Int) : List UInt8 := d.fKey.data.toList ++ 32 :: (Lib.itoa (d.fText.size : Int) ++ 32 :: (Lib.itoa c ++ 10 :: (d.fText.data.toList ++ [10])))
def itL (d : ItemD) : List UInt8 := frB d (chkV d.fKey d.fText)
def savL (xs : List ItemD) : List UInt8 := arcW ++ 32 :: (Lib.itoa (xs.length : Int) ++ 10 :: xs.flatMap itL)
theorem getD_split {l : List UInt8} {n : Nat} (h : n < l.length) (e : l.getD n 0 = 10) : l = l.take n ++ 10 :: l.drop (n + 1) := by
  have e2 : l[n] = 10 := by rw [List.getD_eq_getElem?_getD, List.getElem?_eq_getElem h] at e; exact e
  conv => lhs; rw [← List.take_append_drop n l, List.drop_eq_getElem_cons h, e2]
theorem numV_lt {l : List UInt8} (h : numB l = true) : (numV l).natAbs < 10 ^ 18 := ((numL_iff _ _).1 (num_of_true h)).2
theorem frL_text {l : List UInt8} {f : FrD} (h : frL l = (some f, 0)) : l = frB f.it f.chk ++ l.drop f.used ∧ f.used = (frB f.it f.chk).length ∧ 0 ≤ f.chk ∧ f.chk.natAbs < 10 ^ 18 := by
  cases hn : nlO l with
  | none => rw [frL_none hn] at h; injection h with h; cases h
  | some j =>
    obtain ⟨h1, h2, h3⟩ := nlO_some hn
    rw [frL_some hn] at h
    by_cases h3' : (cutB 32 (l.take j)).length = 3
    · obtain ⟨a, b, c, e⟩ := three_bytes h3'
      rw [e] at h
      simp only [frW] at h
      split at h
      · unfold frN at h
        split at h
        · rename_i hk
          simp only [Bool.and_eq_true, decide_eq_true_eq] at hk
          obtain ⟨⟨⟨hb, hc⟩, hi⟩, hc0⟩ := hk
          have hib := inB_true hi
          obtain ⟨n, hnn⟩ : ∃ n : Nat, numV b.data.toList = n := ⟨(numV b.data.toList).toNat, by omega⟩
          rw [hnn] at h
          unfold frT at h
          split at h
          · injection h with h; cases h
          · rename_i hlen
            split at h
            · rename_i h10
              injection h with h
              injection h with h
              subst h
              have hln : n < (l.drop (j + 1)).length := by simp only [Int.toNat_natCast] at hlen; omega
              simp only [Int.toNat_natCast] at h10 ⊢
              have hs := getD_split hln h10
              have hcut : cutAt 32 (l.take j) = [a.data.toList, b.data.toList, c.data.toList] := by
                have := congrArg (List.map fun x : ByteArray => x.data.toList) e
                rw [cutB, List.map_map] at this
                rw [← List.map_id (cutAt 32 (l.take j))]
                refine Eq.trans (List.map_congr_left fun p _ => ?_) this
                exact (bs_list p).symm
              have hj := jn_cutAt 32 (l.take j)
              rw [hcut, jn_cons, jn_cons] at hj
              have hbi := numB_itoa hb
              have hci := numB_itoa hc
              rw [hnn] at hbi
              have htk : ((l.drop (j + 1)).take n).length = n := by rw [List.length_take]; omega
              have hbsz : (bs ((l.drop (j + 1)).take n)).size = n := by rw [bs_size, htk]
              have hjl : (l.take j).length = j := by rw [List.length_take]; omega
              refine ⟨?_, ?_, hc0, numV_lt hc⟩
              · show l = frB ⟨a, bs ((l.drop (j + 1)).take n)⟩ (numV c.data.toList) ++ l.drop (j + 1 + n + 1)
                unfold frB
                simp only [hbsz, bs_list]
                rw [← hbi, ← hci]
                conv => lhs; rw [h3, hs, ← hj]
                rw [List.drop_drop, show j + 1 + (n + 1) = j + 1 + n + 1 by omega]
                simp [jn]
              · show j + 1 + n + 1 = (frB ⟨a, bs ((l.drop (j + 1)).take n)⟩ (numV c.data.toList)).length
                unfold frB
                simp only [hbsz, bs_list]
                rw [← hbi, ← hci]
                have := congrArg List.length hj
                simp only [jn, List.map_nil, List.flatten_nil, List.append_nil, List.length_append, List.length_cons] at this
                simp only [List.length_append, List.length_cons, List.length_nil, htk]
                omega
            · injection h with h; cases h
        · injection h with h; cases h
      · injection h with h; cases h
    · rw [frW_len h3'] at h; injection h with h; cases h
theorem name_chars {s : ByteArray} (h : nameB s = true) : ∀ c ∈ s.data.toList, nameCh c = true := by
  simp only [nameB, Bool.and_eq_true] at h
  have h4 := h.2
  rw [ByteArray.toList_eq] at h4
  exact List.all_eq_true.1 h4
theorem name_no10 {s : ByteArray} (h : nameB s = true) : (10 : UInt8) ∉ s.data.toList := fun e => absurd (name_chars h 10 e) (by decide)
theorem name_no32' {s : ByteArray} (h : nameB s = true) : (32 : UInt8) ∉ s.data.toList := fun e => absurd (name_chars h 32 e) (by decide)
theorem itoa_no10 (n : Int) : (10 : UInt8) ∉ Lib.itoa n := itoa_no (by decide) (by decide)
theorem num_of_itoa {c : Int} (h : c.natAbs < 10 ^ 18) : numB (Lib.itoa c) = true ∧ numV (Lib.itoa c) = c := by
  have := num_some ((numL_iff (Lib.itoa c) c).2 ⟨rfl, h⟩)
  exact ⟨this.2, this.1⟩
theorem frL_of {d : ItemD} {c : Int} (r : List UInt8) (hn : nameB d.fKey = true) (ht : d.fText.size ≤ 400) (hc : 0 ≤ c) (hc2 : c.natAbs < 10 ^ 18) : frL (frB d c ++ r) = (some ⟨d, c, (frB d c).length⟩, 0) := by
  obtain ⟨line, hline⟩ : ∃ line, line = d.fKey.data.toList ++ 32 :: (Lib.itoa (d.fText.size : Int) ++ 32 :: Lib.itoa c) := ⟨_, rfl⟩
  have hno : (10 : UInt8) ∉ line := by
    rw [hline]
    intro e
    rcases List.mem_append.1 e with e | e
    · exact name_no10 hn e
    · rcases List.mem_cons.1 e with e | e
      · exact absurd e (by decide)
      · rcases List.mem_append.1 e with e | e
        · exact itoa_no10 _ e
        · rcases List.mem_cons.1 e with e | e
          · exact absurd e (by decide)
          · exact itoa_no10 _ e
  have hl : frB d c ++ r = line ++ 10 :: (d.fText.data.toList ++ 10 :: r) := by rw [hline]; unfold frB; simp
  have hnl := nlO_app line (d.fText.data.toList ++ 10 :: r) hno
  rw [← hl] at hnl
  have htake : (frB d c ++ r).take line.length = line := by rw [hl]; simp
  have hdrop : (frB d c ++ r).drop (line.length + 1) = d.fText.data.toList ++ 10 :: r := by
    rw [hl, List.drop_append]; simp
  have hcut : cutB 32 line = [d.fKey, bs (Lib.itoa (d.fText.size : Int)), bs (Lib.itoa c)] := by
    rw [cutB, hline, cutAt_app 32 _ _ (name_no32' hn), cutAt_app 32 _ _ (itoa_no32 _), cutAt_clean 32 _ (itoa_no32 _)]
    simp [bs_self]
  rw [frL_some hnl, htake, hdrop, hcut]
  simp only [frW, hn, if_true, bs_list]
  obtain ⟨n1, n2⟩ := num_of_itoa (c := (d.fText.size : Int)) (by omega)
  obtain ⟨m1, m2⟩ := num_of_itoa hc2
  rw [n1, n2, m1, m2, Bool.and_self, frN_go ht hc, frT]
  have hsz : d.fText.data.toList.length = d.fText.size := by simp
  rw [if_neg (by rw [List.length_append, hsz, List.length_cons]; omega), if_pos (by rw [List.getD_eq_getElem?_getD, List.getElem?_append_right (by omega), hsz]; simp)]
  have e1 : (d.fText.data.toList ++ 10 :: r).take d.fText.size = d.fText.data.toList := by rw [← hsz]; simp
  rw [e1, bs_self]
  have e2 : line.length + 1 + d.fText.size + 1 = (frB d c).length := by
    rw [hline]; unfold frB
    simp only [List.length_append, List.length_cons, List.length_nil, hsz]
    omega
  rw [e2]
theorem frL_app {l s : List UInt8} {f : FrD} (h : frL l = (some f, 0)) : frL (l ++ s) = (some f, 0) ∧ (l ++ s).drop f.used = l.drop f.used ++ s := by
  obtain ⟨h1, h2, h3, h4⟩ := frL_text h
  have hc : f.it.fText.size ≤ 400 ∧ nameB f.it.fKey = true ∧ f.used ≤ l.length := by
    rcases frL_cases l with ⟨k1, -⟩ | ⟨g, k1, k2, k3, k4, k5⟩
    · rw [h] at k1; cases k1
    · rw [h] at k1; injection k1 with k1; injection k1 with k1; subst k1; exact ⟨k2, k3, k5⟩
  have h5 := frL_of (l.drop f.used ++ s) hc.2.1 hc.1 h3 h4
  rw [← List.append_assoc, ← h1] at h5
  rw [h5, ← h2]
  exact ⟨rfl, by rw [List.drop_append_of_le_length hc.2.2]⟩
theorem load_ok {a : List ItemD} {d : ItemD} {bad : Bool} (h : (loadStp a d bad).1 = 0) : bad = false ∧ (loadStp a d bad).2 = a ++ [d] := by
  cases bad with
  | true => exact absurd h (by simp [loadStp])
  | false =>
    refine ⟨rfl, ?_⟩
    simp only [loadStp, Bool.false_eq_true, if_false] at h ⊢
    split at h
    · rename_i hl; rw [if_pos hl]
    · exact absurd h (by simp)
theorem arcF_text : ∀ (n : Nat) (a r : List ItemD) (l : List UInt8), arcF loadStp n a l = (0, r) → ∃ ys, r = a ++ ys ∧ ys.length = n ∧ l = ys.flatMap itL
  | 0, a, r, l, h => by
    unfold arcF at h
    split at h
    · rename_i hl; injection h with _ h; exact ⟨[], by simp [h], rfl, by simpa using hl⟩
    · injection h with h _; cases h
  | n + 1, a, r, l, h => by
    rcases frL_cases l with ⟨h1, h2⟩ | ⟨f, hf, -⟩
    · have e : frL l = (none, (frL l).2) := by rw [← h1]
      rw [arcF_bad e] at h
      injection h with h _; exact absurd h h2
    · by_cases hs : (loadStp a f.it (badB f)).1 = 0
      · rw [arcF_go hf hs] at h
        obtain ⟨hb, he⟩ := load_ok hs
        rw [he] at h
        obtain ⟨ys, k1, k2, k3⟩ := arcF_text n _ _ _ h
        refine ⟨f.it :: ys, by rw [k1]; simp, by simp [k2], ?_⟩
        have ht := (frL_text hf).1
        have hck : f.chk = chkV f.it.fKey f.it.fText := by unfold badB at hb; simpa [bne] using hb
        rw [hck] at ht
        rw [List.flatMap_cons, ← k3]; exact ht
      · rw [arcF_out hf hs] at h
        rw [h] at hs; exact absurd rfl hs
theorem arcF_app {s : List UInt8} (hs : s ≠ []) : ∀ (n : Nat) (a r : List ItemD) (l : List UInt8), arcF loadStp n a l = (0, r) → (arcF loadStp n a (l ++ s)).1 = 9
  | 0, a, r, l, h => by
    unfold arcF
    rw [if_neg (by intro e; exact hs (List.append_eq_nil_iff.1 e).2)]
  | n + 1, a, r, l, h => by
    rcases frL_cases l with ⟨h1, h2⟩ | ⟨f, hf, -⟩
    · have e : frL l = (none, (frL l).2) := by rw [← h1]
      rw [arcF_bad e] at h
      injection h with h _; exact absurd h h2
    · obtain ⟨k1, k2⟩ := frL_app (s := s) hf
      by_cases hq : (loadStp a f.it (badB f)).1 = 0
      · rw [arcF_go hf hq] at h
        rw [arcF_go k1 hq, k2]
        exact arcF_app hs n _ _ _ h
      · rw [arcF_out hf hq] at h
        rw [h] at hq; exact absurd rfl hq
theorem hd_text {line : List UInt8} {n : Nat} (h : hdL line = some n) : line = arcW ++ 32 :: Lib.itoa n := by
  unfold hdL at h
  by_cases h2 : (cutB 32 line).length = 2
  · obtain ⟨a, b, e⟩ := two_of h2
    rw [e] at h
    simp only [hdW] at h
    split at h
    · rename_i ha
      have ha := beq_iff_eq.1 ha
      rw [ByteArray.toList_eq] at ha
      obtain ⟨k1, k2, -⟩ := hdN_some h
      have hb := numB_itoa k1
      rw [k2] at hb
      have hj := jn_cutAt 32 line
      rw [cutB_two' e, jn_cons, ha, hb] at hj
      rw [← hj]; simp [jn]
    · cases h
  · rw [hdW_len h2] at h; cases h
theorem arcL_parts {l : List UInt8} {ys : List ItemD} (h : arcL loadStp [] l = (0, ys)) : ∃ j, nlO l = some j ∧ hdL (l.take j) = some ys.length ∧ arcF loadStp ys.length [] (l.drop (j + 1)) = (0, ys) ∧ l = savL ys := by
  cases hn : nlO l with
  | none => rw [arcL_none hn] at h; injection h with h _; cases h
  | some j =>
    cases hh : hdL (l.take j) with
    | none => rw [arcL_bad hn hh] at h; injection h with h _; cases h
    | some n =>
      rw [arcL_go hn hh] at h
      obtain ⟨zs, k1, k2, k3⟩ := arcF_text _ _ _ _ h
      rw [List.nil_append] at k1
      subst k1
      subst k2
      refine ⟨j, rfl, hh, h, ?_⟩
      have h3 := (nlO_some hn).2.2
      rw [h3, hd_text hh, k3]; unfold savL; simp
theorem savL_read {l : List UInt8} {ys : List ItemD} (h : arcL loadStp [] l = (0, ys)) : l = savL ys := by
  obtain ⟨j, -, -, -, h4⟩ := arcL_parts h
  exact h4
theorem arcL_app {l s : List UInt8} {ys : List ItemD} (h : arcL loadStp [] l = (0, ys)) (hs : s ≠ []) : (arcL loadStp [] (l ++ s)).1 = 9 := by
  obtain ⟨j, h1, h2, h3, -⟩ := arcL_parts h
  obtain ⟨k1, k2, k3⟩ := nlO_some h1
  have hn : nlO (l ++ s) = some j := by
    have := nlO_app (l.take j) (l.drop (j + 1) ++ s) k2
    rw [← List.cons_append, ← List.append_assoc, ← k3] at this
    rw [this, List.length_take]; congr 1; omega
  have ht : (l ++ s).take j = l.take j := List.take_append_of_le_length (by omega)
  have hd : (l ++ s).drop (j + 1) = l.drop (j + 1) ++ s := List.drop_append_of_le_length (by omega)
  rw [arcL_go hn (by rw [ht]; exact h2), hd]
  exact arcF_app hs _ _ _ _ h3

/-! ### what was written is read -/
def okI (d : ItemD) : Prop := nameB d.fKey = true ∧ d.fText.size ≤ 400
theorem chk_fits (k t : ByteArray) : 0 ≤ chkV k t ∧ (chkV k t).natAbs < 10 ^ 18 := by have := chkV_in k t; unfold In16 at this; omega
theorem items_ok {xs : List ItemD} (h : itemsB xs = true) : xs.length ≤ 40 ∧ (∀ x ∈ xs, okI x) ∧ ∀ i (hi : i < xs.length), lastLt (xs.take i) xs[i] = true := by
  simp only [itemsB, risesB, Bool.and_eq_true, decide_eq_true_eq] at h
  refine ⟨by omega, fun x hx => ?_, fun i hi => ?_⟩
  · obtain ⟨i, hi, rfl⟩ := List.mem_iff_getElem.1 hx
    have h1 := of_allB h.1 i hi
    simp only [stepB, Bool.and_eq_true, oneAt_get _ _ _ hi, itemD, itemB, decide_eq_true_eq] at h1
    exact ⟨h1.1.1, by omega⟩
  · by_cases h0 : i = 0
    · subst h0; rfl
    · have h1 := of_allB h.1 i hi
      rw [stepB_pos _ _ _ i hi (by omega)] at h1
      simp only [Bool.and_eq_true] at h1
      have hl : 0 < (xs.take i).length := by rw [List.length_take]; omega
      rw [lastLt_get _ hl]
      have e : (xs.take i)[(xs.take i).length - 1]'(by omega) = xs[i - 1] := by
        rw [List.getElem_take]; congr 1; rw [List.length_take]; omega
      rw [e]; exact h1.2
theorem itL_read {d : ItemD} (r : List UInt8) (h : okI d) : frL (itL d ++ r) = (some ⟨d, chkV d.fKey d.fText, (itL d).length⟩, 0) := frL_of r h.1 h.2 (chk_fits _ _).1 (chk_fits _ _).2
theorem good_itL (d : ItemD) (u : Nat) : badB ⟨d, chkV d.fKey d.fText, u⟩ = false := by simp [badB, bne]
theorem arcF_run (m : Nat) (l : List UInt8) : ∀ (ys a : List ItemD), (∀ y ∈ ys, okI y) → (∀ i (hi : i < ys.length), lastLt (a ++ ys.take i) ys[i] = true) → arcF loadStp (ys.length + m) a (ys.flatMap itL ++ l) = arcF loadStp m (a ++ ys) l
  | [], a, _, _ => by simp
  | y :: ys, a, h, hl => by
    have h0 := itL_read (ys.flatMap itL ++ l) (h y (by simp))
    have hl0 : lastLt a y = true := by have := hl 0 (by simp); simpa using this
    have hs : loadStp a y false = (0, a ++ [y]) := by simp [loadStp, hl0]
    rw [List.flatMap_cons, List.append_assoc, show (y :: ys).length + m = (ys.length + m) + 1 by simp; omega, arcF_go h0 (by simp only [good_itL]; rw [hs])]
    simp only [good_itL, hs]
    rw [List.drop_left]
    rw [arcF_run m l ys (a ++ [y]) (fun z hz => h z (by simp [hz])) (fun i hi => by have := hl (i + 1) (by simpa using hi); simpa using this)]
    simp
theorem head_read {n : Nat} (h : n ≤ 40) (r : List UInt8) : nlO (arcW ++ 32 :: (Lib.itoa (n : Int) ++ 10 :: r)) = some (arcW ++ 32 :: Lib.itoa (n : Int)).length ∧ hdL ((arcW ++ 32 :: (Lib.itoa (n : Int) ++ 10 :: r)).take (arcW ++ 32 :: Lib.itoa (n : Int)).length) = some n ∧ (arcW ++ 32 :: (Lib.itoa (n : Int) ++ 10 :: r)).drop ((arcW ++ 32 :: Lib.itoa (n : Int)).length + 1) = r := by
  have hno : (10 : UInt8) ∉ arcW ++ 32 :: Lib.itoa (n : Int) := by
    intro e
    rcases List.mem_append.1 e with e | e
    · exact absurd e (by decide)
    · rcases List.mem_cons.1 e with e | e
      · exact absurd e (by decide)
      · exact itoa_no10 _ e
  have e : arcW ++ 32 :: (Lib.itoa (n : Int) ++ 10 :: r) = (arcW ++ 32 :: Lib.itoa (n : Int)) ++ 10 :: r := by simp
  rw [e]
  refine ⟨nlO_app _ _ hno, ?_, ?_⟩
  · rw [List.take_left, hd_app]
    obtain ⟨n1, n2⟩ := num_of_itoa (c := (n : Int)) (by omega)
    rw [n1, n2, hdN]
    have : inB (n : Int) 0 40 = true := inB_of (by omega) (by omega)
    rw [this]; simp
  · rw [List.drop_append]; simp
theorem arcL_head {n : Nat} (h : n ≤ 40) (r : List UInt8) : arcL loadStp [] (arcW ++ 32 :: (Lib.itoa (n : Int) ++ 10 :: r)) = arcF loadStp n [] r := by
  obtain ⟨h1, h2, h3⟩ := head_read h r
  rw [arcL_go h1 h2, h3]
theorem load_savL {xs : List ItemD} (h : itemsB xs = true) : arcL loadStp [] (savL xs) = (0, xs) := by
  obtain ⟨h1, h2, h3⟩ := items_ok h
  have h4 := arcF_run 0 [] xs [] h2 (fun i hi => by have := h3 i hi; simpa using this)
  unfold savL
  rw [arcL_head h1]
  rw [List.append_nil, Nat.add_zero, List.nil_append] at h4
  rw [h4]; rfl
/-- a beginning is never enough -/
theorem load_prefix {xs : List ItemD} (h : itemsB xs = true) {at_ : Nat} (hat : at_ < (savL xs).length) : loadC ((savL xs).take at_) ≠ 0 := fun e => by
  have h1 : arcL loadStp [] ((savL xs).take at_) = (0, (arcL loadStp [] ((savL xs).take at_)).2) := by
    have : (arcL loadStp [] ((savL xs).take at_)).1 = 0 := e
    rw [← this]
  have h2 := arcL_app h1 (s := (savL xs).drop at_) (by intro e; have := congrArg List.length e; rw [List.length_drop] at this; simp at this; omega)
  rw [List.take_append_drop, load_savL h] at h2
  cases h2
theorem same_text {xs ys : List ItemD} (h : sameL itemE xs ys = true) : xs = ys := by
  simp only [sameL, decide_eq_true_eq] at h
  have hi : ∀ a b : ItemD, itemE a = itemE b → a = b := fun a b e => by
    unfold itemE at e
    injection e with e1 e2
    injection e2 with e2 _
    rw [ByteArray.toList_eq, ByteArray.toList_eq] at e1 e2
    obtain ⟨k1, t1⟩ := a
    obtain ⟨k2, t2⟩ := b
    simp only at e1 e2
    have f1 : k1 = k2 := by rw [← bs_self k1, e1, bs_self]
    have f2 : t1 = t2 := by rw [← bs_self t1, e2, bs_self]
    rw [f1, f2]
  exact List.map_inj_right (fun a b e => hi a b e) |>.1 h
/-- other bytes are never read as the same items -/
theorem load_other {xs ys : List ItemD} {l : List UInt8} (h : loadC l = 0) (hy : loadR l = ys) (hs : ys = xs) : l = savL xs := by
  have h1 : arcL loadStp [] l = (0, (arcL loadStp [] l).2) := by
    have : (arcL loadStp [] l).1 = 0 := h
    rw [← this]
  have h2 := savL_read h1
  unfold loadR at hy
  rw [if_pos h] at hy
  rw [hy, hs] at h2; exact h2
/-- a text with another check value -/
theorem load_damaged {xs : List ItemD} (h : itemsB xs = true) {i : Nat} (hi : i < xs.length) {t : ByteArray} (ht : t.size = xs[i].fText.size) (hne : chkV xs[i].fKey t ≠ chkV xs[i].fKey xs[i].fText) (r : List UInt8) :
    loadC (arcW ++ 32 :: (Lib.itoa (xs.length : Int) ++ 10 :: ((xs.take i).flatMap itL ++ (frB ⟨xs[i].fKey, t⟩ (chkV xs[i].fKey xs[i].fText) ++ r)))) = 10 := by
  obtain ⟨h1, h2, h3⟩ := items_ok h
  have hk := h2 xs[i] (List.getElem_mem hi)
  unfold loadC
  rw [arcL_head h1]
  have hlen : (xs.take i).length = i := by rw [List.length_take]; omega
  have h4 := arcF_run (xs.length - i) (frB ⟨xs[i].fKey, t⟩ (chkV xs[i].fKey xs[i].fText) ++ r) (xs.take i) [] (fun y hy => h2 y (List.mem_of_mem_take hy)) (fun j hj => by
    have hj2 : j < i := by omega
    have := h3 j (by omega)
    rw [List.nil_append, List.getElem_take, List.take_take, Nat.min_eq_left (by omega)]; exact this)
  rw [hlen, show i + (xs.length - i) = xs.length by omega] at h4
  rw [h4]
  obtain ⟨m, hm⟩ : ∃ m, xs.length - i = m + 1 := ⟨xs.length - i - 1, by omega⟩
  rw [hm]
  have h5 := frL_of (d := ⟨xs[i].fKey, t⟩) r hk.1 (by show t.size ≤ 400; have := hk.2; omega) (chk_fits xs[i].fKey xs[i].fText).1 (chk_fits xs[i].fKey xs[i].fText).2
  have hb : badB ⟨⟨xs[i].fKey, t⟩, chkV xs[i].fKey xs[i].fText, (frB ⟨xs[i].fKey, t⟩ (chkV xs[i].fKey xs[i].fText)).length⟩ = true := by
    simp only [badB, bne, Bool.not_eq_true', beq_eq_false_iff_ne]
    exact fun e => hne e.symm
  rw [arcF_out h5 (by rw [hb]; simp [loadStp]), hb]
  simp [loadStp]
end Go.Proofs.YtabbhlehbhadiaaDoor
namespace Go.Proofs.YtabbhlehbhadiaaDoor
open Go.RowKit Go.Sort
set_option linter.unusedVariables false
set_option maxRecDepth 100000

theorem data_app (a b : ByteArray) : (a ++ b).data.toList = a.data.toList ++ b.data.toList := by simp
theorem ba_len (s : ByteArray) : s.data.toList.length = s.size := by rw [Array.length_toList]; rfl
theorem itS_list (d : ItemD) : (itS d).data.toList = itL d := by
  simp only [itS, itL, frB, data_app, decS_list]
  simp
theorem savF_list : ∀ (xs : List ItemD) (h : ByteArray), (savF h xs).data.toList = h.data.toList ++ xs.flatMap itL
  | [], h => by simp [savF]
  | d :: tl, h => by
    have e : savF h (d :: tl) = savF (h ++ itS d) tl := rfl
    rw [e, savF_list tl, data_app, itS_list, List.flatMap_cons, List.append_assoc]
theorem saveS_list (xs : List ItemD) : (saveS xs).data.toList = savL xs := by
  rw [saveS, savF_list, headS, data_app, data_app, decS_list]
  simp [savL, arcW]
/-- where the text of the i-th item begins -/
def preI (xs : List ItemD) (i : Nat) : Nat := 9 + (Lib.itoa (xs.length : Int)).length + ((xs.take i).flatMap itL).length
def hdI2 (d : ItemD) : List UInt8 := d.fKey.data.toList ++ 32 :: (Lib.itoa (d.fText.size : Int) ++ 32 :: (Lib.itoa (chkV d.fKey d.fText) ++ [10]))
theorem itL_hd (d : ItemD) : itL d = hdI2 d ++ (d.fText.data.toList ++ [10]) := by simp [itL, frB, hdI2]
theorem frB_hd (k t t' : ByteArray) (h : t.size = t'.size) : frB ⟨k, t⟩ (chkV k t') = hdI2 ⟨k, t'⟩ ++ (t.data.toList ++ [10]) := by simp [frB, hdI2, h]
theorem hdI2_len (d : ItemD) : (hdI2 d).length = d.fKey.size + (Lib.itoa (d.fText.size : Int)).length + (Lib.itoa (chkV d.fKey d.fText)).length + 3 := by
  simp only [hdI2, List.length_append, List.length_cons, List.length_nil, ba_len]; omega
theorem itL_len (d : ItemD) : (itL d).length = (hdI2 d).length + d.fText.size + 1 := by rw [itL_hd]; simp only [List.length_append, List.length_cons, List.length_nil, ba_len]; omega
theorem preI_zero (xs : List ItemD) : preI xs 0 = 9 + (Lib.itoa (xs.length : Int)).length := by simp [preI]
theorem preI_succ {xs : List ItemD} {i : Nat} (hi : i < xs.length) : preI xs (i + 1) = preI xs i + (hdI2 xs[i]).length + xs[i].fText.size + 1 := by
  have e : xs.take (i + 1) = xs.take i ++ [xs[i]] := by simp
  rw [preI, preI, e, List.flatMap_append]
  simp [itL_len]; omega
theorem savL_at {xs : List ItemD} {i : Nat} (hi : i < xs.length) : savL xs = (arcW ++ 32 :: (Lib.itoa (xs.length : Int) ++ 10 :: ((xs.take i).flatMap itL ++ hdI2 xs[i]))) ++ (xs[i].fText.data.toList ++ ([10] ++ (xs.drop (i + 1)).flatMap itL)) := by
  have e : xs = xs.take i ++ (xs[i] :: xs.drop (i + 1)) := by simp
  have h : xs.flatMap itL = (xs.take i).flatMap itL ++ (itL xs[i] ++ (xs.drop (i + 1)).flatMap itL) := by
    conv => lhs; rw [e]
    rw [List.flatMap_append, List.flatMap_cons]
  rw [savL, h, itL_hd]; simp
theorem savL_pre {xs : List ItemD} {i : Nat} (hi : i < xs.length) : (arcW ++ 32 :: (Lib.itoa (xs.length : Int) ++ 10 :: ((xs.take i).flatMap itL ++ hdI2 xs[i]))).length = preI xs i + (hdI2 xs[i]).length := by
  simp [preI, arcW]; omega
theorem split_at {l : List UInt8} {k : Nat} (h : k < l.length) : l = l.take k ++ l[k] :: l.drop (k + 1) := by rw [List.getElem_cons_drop, List.take_append_drop]
/-- a changed byte of a text is found by its check value -/
theorem damage_found {xs : List ItemD} (h : itemsB xs = true) {i k : Nat} (hi : i < xs.length) (hk : k < xs[i].fText.size) {c : UInt8} (hc : (savL xs)[preI xs i + (hdI2 xs[i]).length + k]? ≠ some c) :
    loadC ((savL xs).set (preI xs i + (hdI2 xs[i]).length + k) c) = 10 := by
  have hp := savL_pre hi
  have hkl : k < xs[i].fText.data.toList.length := by rw [ba_len]; exact hk
  have e1 : (savL xs)[preI xs i + (hdI2 xs[i]).length + k]? = some (xs[i].fText.data.toList[k]) := by
    rw [savL_at hi, List.getElem?_append_right (by omega), hp, show preI xs i + (hdI2 xs[i]).length + k - (preI xs i + (hdI2 xs[i]).length) = k by omega, List.getElem?_append_left hkl, List.getElem?_eq_getElem hkl]
  rw [e1] at hc
  have hne : xs[i].fText.data.toList[k] ≠ c := fun e => hc (by rw [e])
  obtain ⟨t, ht⟩ : ∃ t : ByteArray, t = ⟨(xs[i].fText.data.toList.set k c).toArray⟩ := ⟨_, rfl⟩
  have htl : t.data.toList = xs[i].fText.data.toList.set k c := by rw [ht]
  have hts : t.size = xs[i].fText.size := by rw [← ba_len, htl, List.length_set, ba_len]
  have hcv : chkV xs[i].fKey t ≠ chkV xs[i].fKey xs[i].fText := by
    rw [chkV_list, chkV_list, htl, List.set_eq_take_append_cons_drop, if_pos hkl]
    have e2 : xs[i].fText.data.toList = xs[i].fText.data.toList.take k ++ xs[i].fText.data.toList[k] :: xs[i].fText.data.toList.drop (k + 1) := split_at hkl
    have := crc_one (a := xs[i].fKey.data.toList ++ 32 :: xs[i].fText.data.toList.take k) (b := xs[i].fText.data.toList.drop (k + 1)) hne.symm
    intro e3
    apply this
    rw [List.append_assoc, List.append_assoc, List.cons_append, List.cons_append, e3, ← e2]
  have hd := load_damaged h hi hts hcv ((xs.drop (i + 1)).flatMap itL)
  rw [frB_hd _ _ _ hts, htl] at hd
  rw [← hd, savL_at hi, List.set_append_right _ _ (by omega), hp, show preI xs i + (hdI2 xs[i]).length + k - (preI xs i + (hdI2 xs[i]).length) = k by omega, List.set_append_left _ _ hkl]
  simp
theorem set_ne {l : List UInt8} {k : Nat} {c : UInt8} (hk : k < l.length) (hc : l[k]? ≠ some c) : l.set k c ≠ l := fun e => by
  have h1 : (l.set k c)[k]? = some c := by rw [List.getElem?_set_self hk]
  rw [e] at h1; exact hc h1
/-- what FnDamage asks, of the bytes' lists -/
theorem damage_law {xs : List ItemD} (h : itemsB xs = true) {p : Nat} (hp : p < (savL xs).length) {c : UInt8} (hc : (savL xs)[p]? ≠ some c) :
    ¬ (loadC ((savL xs).set p c) = 0 ∧ sameL itemE (loadR ((savL xs).set p c)) xs = true) ∧ loadC ((savL xs).take p) ≠ 0 ∧ loadR ((savL xs).take p) = [] ∧
      ∀ i (hi : i < xs.length), preI xs i + (hdI2 xs[i]).length ≤ p → p < preI xs i + (hdI2 xs[i]).length + xs[i].fText.size → loadC ((savL xs).set p c) = 10 := by
  refine ⟨fun ⟨h1, h2⟩ => set_ne hp hc (load_other h1 rfl (same_text h2)), load_prefix h hp, ?_, fun i hi h1 h2 => ?_⟩
  · have := load_prefix h hp
    unfold loadR
    rw [if_neg this]
  · obtain ⟨k, rfl⟩ : ∃ k, p = preI xs i + (hdI2 xs[i]).length + k := ⟨p - (preI xs i + (hdI2 xs[i]).length), by omega⟩
    exact damage_found h hi (by omega) hc
theorem xor_ne (a b : Nat) (hb : 0 < b) : a ^^^ b ≠ a := fun e => by
  have h : a ^^^ (a ^^^ b) = a ^^^ a := by rw [e]
  rw [← Nat.xor_assoc, Nat.xor_self, Nat.zero_xor] at h; omega
end Go.Proofs.YtabbhlehbhadiaaDoor
