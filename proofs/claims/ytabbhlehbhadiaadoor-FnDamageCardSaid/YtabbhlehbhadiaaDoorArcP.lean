/- The archive's bytes: the reference's scan and what is made of it. Plain. -/
import Derived.Test.YtabbhlehbhadiaaDoorFrm
namespace Go.Proofs.YtabbhlehbhadiaaDoor
open Go.RowKit Go.Sort
set_option linter.unusedVariables false

theorem arcF_rel {A B : Type} {sa : A → ItemD → Bool → Int × A} {sb : B → ItemD → Bool → Int × B} (R : A → B → Prop) (h : ∀ a b d bad, R a b → (sa a d bad).1 = 0 ∧ (sb b d bad).1 = 0 ∧ R (sa a d bad).2 (sb b d bad).2) :
    ∀ (n : Nat) (a : A) (b : B) (l : List UInt8), R a b → (arcF sa n a l).1 = (arcF sb n b l).1 ∧ R (arcF sa n a l).2 (arcF sb n b l).2
  | 0, a, b, l, hR => by
    unfold arcF
    split <;> exact ⟨rfl, hR⟩
  | n + 1, a, b, l, hR => by
    rcases frL_cases l with ⟨h1, -⟩ | ⟨f, hf, -⟩
    · have e : frL l = (none, (frL l).2) := by rw [← h1]
      rw [arcF_bad e, arcF_bad e]
      exact ⟨rfl, hR⟩
    · obtain ⟨k1, k2, k3⟩ := h a b f.it (badB f) hR
      rw [arcF_go hf k1, arcF_go hf k2]
      exact arcF_rel R h n _ _ _ k3
theorem arcL_rel {A B : Type} {sa : A → ItemD → Bool → Int × A} {sb : B → ItemD → Bool → Int × B} (R : A → B → Prop) (h : ∀ a b d bad, R a b → (sa a d bad).1 = 0 ∧ (sb b d bad).1 = 0 ∧ R (sa a d bad).2 (sb b d bad).2) (a : A) (b : B) (l : List UInt8) (hR : R a b) :
    (arcL sa a l).1 = (arcL sb b l).1 ∧ R (arcL sa a l).2 (arcL sb b l).2 := by
  unfold arcL
  split
  · exact ⟨rfl, hR⟩
  · split
    · exact ⟨rfl, hR⟩
    · exact arcF_rel R h _ _ _ _ hR
/-- the places that are not fine, of the first k -/
def damK (bs : List Bool) (k : Nat) : List Int := ((List.range k).filter fun i => !bs.getD i true).map Int.ofNat
theorem damK_succ (bs : List Bool) (k : Nat) : damK bs (k + 1) = if bs.getD k true then damK bs k else damK bs k ++ [(k : Int)] := by
  unfold damK
  rw [List.range_succ, List.filter_append, List.map_append]
  cases h : bs.getD k true <;> (rw [List.getD_eq_getElem?_getD] at h; simp [List.filter_cons, h])
theorem damK_app (bs cs : List Bool) : ∀ k, k ≤ bs.length → damK (bs ++ cs) k = damK bs k
  | 0, _ => rfl
  | k + 1, h => by
    rw [damK_succ, damK_succ, damK_app bs cs k (by omega)]
    have e : (bs ++ cs).getD k true = bs.getD k true := by simp only [List.getD_eq_getElem?_getD]; rw [List.getElem?_append_left (by omega)]
    rw [e]
theorem damK_snoc (bs : List Bool) (b : Bool) : damK (bs ++ [b]) (bs ++ [b]).length = if b then damK bs bs.length else damK bs bs.length ++ [(bs.length : Int)] := by
  rw [List.length_append, List.length_singleton, damK_succ, damK_app bs [b] _ (Nat.le_refl _)]
  have e : (bs ++ [b]).getD bs.length true = b := by simp [List.getD_eq_getElem?_getD]
  rw [e]
def zItm : ItemD := ⟨⟨#[]⟩, ⟨#[]⟩⟩
/-- the items that are kept, of the first k -/
def salK (xs : List ItemD) (bs : List Bool) : Nat → List ItemD
  | 0 => []
  | k + 1 => if bs.getD k false && lastLt (salK xs bs k) (xs.getD k zItm) then salK xs bs k ++ [xs.getD k zItm] else salK xs bs k
theorem salK_app (xs ys : List ItemD) (bs cs : List Bool) : ∀ k, k ≤ xs.length → k ≤ bs.length → salK (xs ++ ys) (bs ++ cs) k = salK xs bs k
  | 0, _, _ => rfl
  | k + 1, h, h' => by
    rw [salK, salK, salK_app xs ys bs cs k (by omega) (by omega)]
    have e : (bs ++ cs).getD k false = bs.getD k false := by simp only [List.getD_eq_getElem?_getD]; rw [List.getElem?_append_left (by omega)]
    have e2 : (xs ++ ys).getD k zItm = xs.getD k zItm := by simp only [List.getD_eq_getElem?_getD]; rw [List.getElem?_append_left (by omega)]
    rw [e, e2]
theorem salK_snoc (xs : List ItemD) (bs : List Bool) (d : ItemD) (b : Bool) (h : xs.length = bs.length) : salK (xs ++ [d]) (bs ++ [b]) (bs ++ [b]).length = if b && lastLt (salK xs bs bs.length) d then salK xs bs bs.length ++ [d] else salK xs bs bs.length := by
  rw [List.length_append, List.length_singleton, salK, salK_app xs [d] bs [b] _ (by omega) (Nat.le_refl _)]
  have e : (bs ++ [b]).getD bs.length false = b := by simp [List.getD_eq_getElem?_getD]
  have e2 : (xs ++ [d]).getD bs.length zItm = d := by rw [← h]; simp [List.getD_eq_getElem?_getD]
  rw [e, e2]
def DamR (x : List Int × Nat) (y : List ItemD × List Bool) : Prop := x.2 = y.2.length ∧ x.1 = damK y.2 y.2.length
theorem dam_scan (l : List UInt8) : damC l = scanC l ∧ damR l = if scanC l = 0 then damK (scanB l) (scanB l).length else [] := by
  have h := arcL_rel (sa := damStp) (sb := scanStp) DamR (fun x y d bad hR => ⟨rfl, rfl, by
    obtain ⟨h1, h2⟩ := hR
    refine ⟨by simp only [damStp, scanStp, List.length_append, List.length_singleton, h1], ?_⟩
    simp only [damStp, scanStp]
    rw [damK_snoc, h2, h1]
    cases bad <;> rfl⟩) ([], 0) ([], []) l ⟨rfl, rfl⟩
  refine ⟨h.1, ?_⟩
  unfold damR damC scanB scanC
  rw [h.1]
  split
  · exact h.2.2
  · rfl
def SalR (x : List ItemD) (y : List ItemD × List Bool) : Prop := y.1.length = y.2.length ∧ x = salK y.1 y.2 y.2.length
theorem sal_scan (l : List UInt8) : salC l = scanC l ∧ salR l = if scanC l = 0 then salK (scanI l) (scanB l) (scanB l).length else [] := by
  have h := arcL_rel (sa := salStp) (sb := scanStp) SalR (fun x y d bad hR => ⟨rfl, rfl, by
    obtain ⟨h1, h2⟩ := hR
    refine ⟨by simp only [salStp, scanStp, List.length_append, List.length_singleton, h1], ?_⟩
    simp only [salStp, scanStp]
    rw [salK_snoc _ _ _ _ h1, h2]⟩) [] ([], []) l ⟨rfl, rfl⟩
  refine ⟨h.1, ?_⟩
  unfold salR salC scanI scanB scanC
  rw [h.1]
  split
  · exact h.2.2
  · rfl
theorem scan_len (l : List UInt8) : (scanI l).length = (scanB l).length := by
  have h := arcL_rel (sa := scanStp) (sb := scanStp) (fun x y => y.1.length = y.2.length) (fun x y d bad hR => ⟨rfl, rfl, by simp [scanStp, hR]⟩) ([], []) ([], []) l rfl
  unfold scanI scanB
  split
  · exact h.2
  · rfl
theorem damK_len (bs : List Bool) : ∀ k, (damK bs k).length ≤ k
  | 0 => Nat.le_refl _
  | k + 1 => by
    have := damK_len bs k
    rw [damK_succ]; split <;> simp <;> omega
theorem salK_len (xs : List ItemD) (bs : List Bool) : ∀ k, (salK xs bs k).length ≤ k
  | 0 => Nat.le_refl _
  | k + 1 => by
    have := salK_len xs bs k
    rw [salK]; split <;> simp <;> omega
/-- no more than forty items -/
theorem hdL_max {l : List UInt8} {n : Nat} (h : hdL l = some n) : n ≤ 40 := by
  rw [← hdI_eq] at h
  unfold hdI at h
  split at h
  · exact (hdN_some h).2.2
  · cases h
theorem arcF_inv {A : Type} {stp : A → ItemD → Bool → Int × A} (P : Nat → A → Prop) (h : ∀ k a d bad, P k a → P (k + 1) (stp a d bad).2) (hm : ∀ k a, P k a → P (k + 1) a) : ∀ (n k : Nat) (a : A) (l : List UInt8), P k a → P (k + n) (arcF stp n a l).2
  | 0, k, a, l, hP => by
    unfold arcF
    split <;> exact hP
  | n + 1, k, a, l, hP => by
    have up : ∀ m j b, P j b → P (j + m) b := by
      intro m
      induction m with
      | zero => intro j b h; exact h
      | succ m ih => intro j b h; exact hm _ _ (ih j b h)
    unfold arcF
    split
    · split
      · rw [show k + (n + 1) = (k + 1) + n by omega]
        exact arcF_inv P h hm n (k + 1) _ _ (h _ _ _ _ hP)
      · rw [show k + (n + 1) = (k + 1) + n by omega]
        exact up n _ _ (h _ _ _ _ hP)
    · exact up (n + 1) _ _ hP
theorem arcL_inv {A : Type} {stp : A → ItemD → Bool → Int × A} (P : Nat → A → Prop) (h : ∀ k a d bad, P k a → P (k + 1) (stp a d bad).2) (hm : ∀ k a, P k a → P (k + 1) a) (a : A) (l : List UInt8) (h0 : P 0 a) : P 40 (arcL stp a l).2 := by
  have up : ∀ m j b, P j b → P (j + m) b := by
    intro m
    induction m with
    | zero => intro j b h; exact h
    | succ m ih => intro j b h; exact hm _ _ (ih j b h)
  unfold arcL
  split
  · exact up 40 0 _ h0
  · rename_i j hj
    split
    · exact up 40 0 _ h0
    · rename_i n hn
      have h1 := arcF_inv P h hm n 0 a (List.drop (j + 1) l) h0
      have h2 := hdL_max hn
      have h3 := up (40 - n) _ _ h1
      rwa [show 0 + n + (40 - n) = 40 by omega] at h3
theorem load_len (l : List UInt8) : (loadR l).length ≤ 40 := by
  have h := arcL_inv (stp := loadStp) (fun k (a : List ItemD) => a.length ≤ k) (fun k a d bad hP => by
    unfold loadStp; split
    · exact Nat.le_succ_of_le hP
    · split
      · simp; exact hP
      · exact Nat.le_succ_of_le hP) (fun k a hP => Nat.le_succ_of_le hP) [] l (Nat.le_refl _)
  unfold loadR; split
  · exact h
  · simp
theorem scanB_len (l : List UInt8) : (scanB l).length ≤ 40 := by
  have h := arcL_inv (stp := scanStp) (fun k (a : List ItemD × List Bool) => a.2.length ≤ k) (fun k a d bad hP => by simp [scanStp]; exact hP) (fun k a hP => Nat.le_succ_of_le hP) ([], []) l (Nat.le_refl _)
  unfold scanB; split
  · exact h
  · simp
theorem dam_len (l : List UInt8) : (damR l).length ≤ 40 := by
  rw [(dam_scan l).2]; split
  · have := damK_len (scanB l) (scanB l).length; have := scanB_len l; omega
  · simp
theorem sal_len (l : List UInt8) : (salR l).length ≤ 40 := by
  rw [(sal_scan l).2]; split
  · have := salK_len (scanI l) (scanB l) (scanB l).length; have := scanB_len l; omega
  · simp
end Go.Proofs.YtabbhlehbhadiaaDoor
