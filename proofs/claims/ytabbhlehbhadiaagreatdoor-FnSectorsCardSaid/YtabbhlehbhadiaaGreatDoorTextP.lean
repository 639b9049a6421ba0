/- Texts, plain: a list of bytes cut at a byte and joined by it; the numeral, and how it is read. -/
import Derived.Test.YtabbhlehbhadiaaGreatDoorBase
import Derived.Lib.ItoaNum
import Derived.Lib.ItoaMem
import Derived.Lib.ItoaLen
import Derived.Lib.Split
import Derived.Lib.ParseIntBCases
import Derived.Lib.Join
namespace Go.Proofs.YtabbhlehbhadiaaGreatDoor
open Go.RowKit
set_option linter.unusedVariables false

/-! ### cut and joined -/
/-- a list cut at each byte c -/
def cutAt (c : UInt8) : List UInt8 → List (List UInt8)
  | [] => [[]]
  | x :: l => if x = c then [] :: cutAt c l else (match cutAt c l with | [] => [[x]] | h :: t => (x :: h) :: t)
/-- joined by a byte -/
def jn (c : UInt8) : List (List UInt8) → List UInt8
  | [] => []
  | p :: r => p ++ (r.map (c :: ·)).flatten
theorem jn_join (c : UInt8) (ps : List (List UInt8)) : Lib.join ps [c] = jn c ps := by
  cases ps with
  | nil => rfl
  | cons p r => rw [Lib.join_cons]; rfl
theorem jn_cons (c : UInt8) (p q : List UInt8) (r : List (List UInt8)) : jn c (p :: q :: r) = p ++ c :: jn c (q :: r) := by simp [jn]
theorem cutAt_clean (c : UInt8) : ∀ h : List UInt8, c ∉ h → cutAt c h = [h]
  | [], _ => rfl
  | x :: h, hc => by
    have hx : x ≠ c := fun e => hc (by simp [e])
    rw [cutAt, if_neg hx, cutAt_clean c h (fun e => hc (by simp [e]))]
theorem cutAt_app (c : UInt8) (l : List UInt8) : ∀ h : List UInt8, c ∉ h → cutAt c (h ++ c :: l) = h :: cutAt c l
  | [], _ => by simp [cutAt]
  | x :: h, hc => by
    have hx : x ≠ c := fun e => hc (by simp [e])
    rw [List.cons_append, cutAt, if_neg hx, cutAt_app c l h (fun e => hc (by simp [e]))]
theorem cutAt_jn (c : UInt8) : ∀ ps : List (List UInt8), ps ≠ [] → (∀ p ∈ ps, c ∉ p) → cutAt c (jn c ps) = ps
  | [], h, _ => absurd rfl h
  | [p], _, hp => by simp only [jn, List.map_nil, List.flatten_nil, List.append_nil]; exact cutAt_clean c p (hp p (by simp))
  | p :: q :: r, _, hp => by
    rw [jn_cons, cutAt_app c _ p (hp p (by simp)), cutAt_jn c (q :: r) (by simp) (fun x hx => hp x (by simp [List.mem_cons.1 hx]))]
theorem cutAt_some (c : UInt8) : ∀ l : List UInt8, ∃ p r, cutAt c l = p :: r
  | [] => ⟨[], [], rfl⟩
  | x :: l => by
    obtain ⟨p, r, h⟩ := cutAt_some c l
    by_cases hx : x = c
    · exact ⟨[], p :: r, by rw [cutAt, if_pos hx, h]⟩
    · exact ⟨x :: p, r, by rw [cutAt, if_neg hx, h]⟩
theorem jn_cutAt (c : UInt8) : ∀ l : List UInt8, jn c (cutAt c l) = l
  | [] => rfl
  | x :: l => by
    obtain ⟨p, r, h⟩ := cutAt_some c l
    have ih := jn_cutAt c l
    rw [h] at ih
    by_cases hx : x = c
    · rw [cutAt, if_pos hx, h, jn_cons, ih, hx]; rfl
    · rw [cutAt, if_neg hx, h]
      show jn c ((x :: p) :: r) = _
      simp only [jn, List.cons_append] at ih ⊢
      rw [ih]
theorem cutAt_no (c : UInt8) : ∀ (l : List UInt8) (p : List UInt8), p ∈ cutAt c l → c ∉ p
  | [], p, hp => by simp [cutAt] at hp; subst hp; simp
  | x :: l, p, hp => by
    obtain ⟨q, r, h⟩ := cutAt_some c l
    have ih := cutAt_no c l
    rw [h] at ih
    by_cases hx : x = c
    · rw [cutAt, if_pos hx, h] at hp
      rcases List.mem_cons.1 hp with rfl | hp
      · simp
      · exact ih p hp
    · rw [cutAt, if_neg hx, h] at hp
      rcases List.mem_cons.1 hp with rfl | hp
      · intro e
        rcases List.mem_cons.1 e with e | e
        · exact hx e.symm
        · exact ih q (by simp) e
      · exact ih p (List.mem_cons_of_mem _ hp)
theorem cutAt_len (c : UInt8) : ∀ l : List UInt8, (cutAt c l).length ≤ l.length + 1
  | [] => by simp [cutAt]
  | x :: l => by
    obtain ⟨q, r, h⟩ := cutAt_some c l
    have ih := cutAt_len c l
    rw [h] at ih
    by_cases hx : x = c
    · rw [cutAt, if_pos hx, h]; simp at ih ⊢; omega
    · rw [cutAt, if_neg hx, h]; simp at ih ⊢; omega
/-- the library's index at one byte -/
theorem index_one (c : UInt8) : ∀ l : List UInt8, (Lib.index l [c] = -1 ∧ c ∉ l) ∨ ∃ i : Nat, Lib.index l [c] = i ∧ i < l.length ∧ c ∉ l.take i ∧ l = l.take i ++ c :: l.drop (i + 1)
  | [] => .inl ⟨rfl, by simp⟩
  | x :: l => by
    by_cases hx : x = c
    · refine .inr ⟨0, ?_, by simp, by simp, by simp [hx]⟩
      rw [Lib.index, if_pos (by simp [List.isPrefixOf, hx])]; rfl
    · have hp : ([c] : List UInt8).isPrefixOf (x :: l) = false := by simp [List.isPrefixOf]; exact fun e => hx e.symm
      rcases index_one c l with ⟨h1, h2⟩ | ⟨i, h1, h2, h3, h4⟩
      · refine .inl ⟨?_, ?_⟩
        · rw [Lib.index, hp, h1]; rfl
        · intro e
          rcases List.mem_cons.1 e with e | e
          · exact hx e.symm
          · exact h2 e
      · refine .inr ⟨i + 1, ?_, by simpa using h2, ?_, ?_⟩
        · rw [Lib.index, hp, h1]
          have : ((i : Int) == -1) = false := by rw [beq_eq_false_iff_ne]; omega
          simp [this]
        · intro e
          rw [List.take_succ_cons] at e
          rcases List.mem_cons.1 e with e | e
          · exact hx e.symm
          · exact h3 e
        · rw [List.take_succ_cons, List.drop_succ_cons, List.cons_append, ← h4]
theorem splitK_cut (c : UInt8) : ∀ (n : Nat) (l : List UInt8), l.length ≤ n → Lib.splitK [c] 0 (Lib.count l [c]) l = cutAt c l := by
  intro n
  induction n with
  | zero =>
    intro l hl
    have : l = [] := List.eq_nil_of_length_eq_zero (by omega)
    subst this; rfl
  | succ n ih =>
    intro l hl
    rcases index_one c l with ⟨h1, h2⟩ | ⟨i, h1, h2, h3, h4⟩
    · rw [Lib.count_miss h1, cutAt_clean c l h2]; rfl
    · rw [Lib.count_hit (by simp) h1, Nat.add_comm, Lib.splitK]
      have hm : ¬ (Lib.index l [c] == -1) = true := fun e => by have := beq_iff_eq.1 e; omega
      rw [if_neg hm, h1]
      simp only [Int.toNat_natCast, Nat.add_zero, List.length_cons, List.length_nil, Nat.zero_add]
      rw [ih (l.drop (i + 1)) (by rw [List.length_drop]; omega)]
      conv => rhs; rw [h4]
      rw [cutAt_app c _ _ h3]

/-! ### the numeral -/
/-- the digits of u, the last ahead -/
def revD (u : Nat) : List UInt8 := if h : u = 0 then [] else UInt8.ofNat (48 + u % 10) :: revD (u / 10)
termination_by u
decreasing_by omega
theorem revD_zero : revD 0 = [] := by rw [revD, dif_pos rfl]
theorem revD_pos {u : Nat} (h : u ≠ 0) : revD u = UInt8.ofNat (48 + u % 10) :: revD (u / 10) := by rw [revD, dif_neg h]
theorem revD_dec (u : Nat) : u ≠ 0 → (revD u).reverse = Lib.decDigits u := by
  induction u using Nat.strongRecOn with
  | ind u ih =>
    intro h
    rw [revD_pos h, Lib.decDigits]
    by_cases h10 : u < 10
    · rw [dif_pos h10, show u / 10 = 0 by omega, revD_zero, show u % 10 = u by omega]; rfl
    · rw [dif_neg h10, List.reverse_cons, ih (u / 10) (by omega) (by omega)]
theorem revD_len : ∀ (k u : Nat), u < 10 ^ k → (revD u).length ≤ k
  | 0, u, h => by
    have : u = 0 := by simpa using h
    subst this; rw [revD_zero]; simp
  | k + 1, u, h => by
    by_cases h0 : u = 0
    · subst h0; rw [revD_zero]; simp
    · rw [revD_pos h0, List.length_cons]
      have := revD_len k (u / 10) (by rw [Nat.pow_succ] at h; omega)
      omega
def signL (n : Int) : List UInt8 := if n < 0 then [45] else []
theorem dec_rev (n : Int) (h : n ≠ 0) : (revD n.natAbs ++ signL n).reverse = Lib.itoa n := by
  unfold Lib.itoa signL
  rw [List.reverse_append]
  split
  · rw [revD_dec _ (by omega)]; rfl
  · rw [revD_dec _ (by omega), show n.toNat = n.natAbs by omega]; rfl
theorem itoa_ne (n : Int) : Lib.itoa n ≠ [] := by
  have h : ∀ u : Nat, Lib.decDigits u ≠ [] := fun u e => by
    have h1 := Lib.nDigits_pos u
    rw [← Lib.decDigits_length, e] at h1
    simp at h1
  unfold Lib.itoa
  split
  · simp
  · exact h _
/-- a number's text -/
def decS (n : Int) : ByteArray := ⟨(Lib.itoa n).toArray⟩
theorem decS_list (n : Int) : (decS n).data.toList = Lib.itoa n := by simp [decS]
theorem decS_zero : decS 0 = ⟨#[48]⟩ := by rw [decS, Lib.itoa, if_neg (by omega)]; show ByteArray.mk (Lib.decDigits 0).toArray = _; rw [Lib.decDigits, dif_pos (by omega)]; rfl

/-! ### read again -/
def dvals : Nat → List UInt8 → Option Nat
  | n, [] => some n
  | n, c :: l => if 48 ≤ c.toNat ∧ c.toNat ≤ 57 then dvals (10 * n + (c.toNat - 48)) l else none
theorem dvals_app : ∀ (a b : List UInt8) (n : Nat), dvals n (a ++ b) = (dvals n a).bind (fun m => dvals m b)
  | [], b, n => rfl
  | c :: a, b, n => by
    rw [List.cons_append, dvals, dvals]
    split
    · exact dvals_app a b _
    · rfl
theorem dvals_dec (u : Nat) : dvals 0 (Lib.decDigits u) = some u := by
  induction u using Nat.strongRecOn with
  | ind u ih =>
    rw [Lib.decDigits]
    by_cases h10 : u < 10
    · rw [dif_pos h10, dvals, dvals]
      have e : (UInt8.ofNat (48 + u)).toNat = 48 + u := by rw [UInt8.toNat_ofNat']; omega
      rw [e, if_pos (by omega)]
      congr 1; omega
    · rw [dif_neg h10, dvals_app, ih (u / 10) (by omega)]
      have e : (UInt8.ofNat (48 + u % 10)).toNat = 48 + u % 10 := by rw [UInt8.toNat_ofNat']; omega
      simp only [Option.bind_some, dvals, e]
      rw [if_pos (by omega)]
      congr 1; omega
theorem dec_of_dvals (n : Nat) : ∀ (l : List UInt8) (u : Nat), l.length ≤ n → l ≠ [] → (l.head? = some 48 → l.length = 1) → dvals 0 l = some u → Lib.decDigits u = l := by
  induction n with
  | zero => intro l u h1 h2; exact absurd (List.eq_nil_of_length_eq_zero (by omega)) h2
  | succ n ih =>
    intro l u h1 h2 h3 h4
    obtain ⟨a, c, rfl⟩ : ∃ a c, l = a ++ [c] := ⟨l.dropLast, l.getLast h2, (List.dropLast_concat_getLast h2).symm⟩
    rw [dvals_app] at h4
    cases ha : dvals 0 a with
    | none => rw [ha] at h4; simp at h4
    | some m =>
      rw [ha] at h4
      simp only [Option.bind_some, dvals] at h4
      split at h4
      · rename_i hc
        injection h4 with h4
        have hcc : UInt8.ofNat (48 + (c.toNat - 48)) = c := by rw [show 48 + (c.toNat - 48) = c.toNat by omega]; exact UInt8.ofNat_toNat
        by_cases he : a = []
        · subst he
          simp only [dvals] at ha
          injection ha with ha
          subst ha
          rw [Lib.decDigits, dif_pos (by omega), ← h4]
          simp only [Nat.mul_zero, Nat.zero_add, List.nil_append]
          rw [hcc]
        · have hd : a.head? ≠ some 48 := by
            intro e
            have hl := h3 (by rw [List.head?_append, e]; rfl)
            rw [List.length_append] at hl
            have : a.length = 0 := by simp at hl; simpa using hl
            exact he (List.eq_nil_of_length_eq_zero this)
          have hA := ih a m (by rw [List.length_append] at h1; simp at h1; omega) he (fun e => absurd e hd) ha
          have hm : m ≠ 0 := by
            intro e
            rw [e, Lib.decDigits, dif_pos (by omega)] at hA
            rw [← hA] at hd
            exact hd rfl
          rw [Lib.decDigits, dif_neg (by omega), show u / 10 = m by omega, hA, show u % 10 = c.toNat - 48 by omega, hcc]
      · cases h4
/-- a number of at most 18 digits -/
def numU (l : List UInt8) : Option Nat := if l.length = 0 ∨ 18 < l.length then none else dvals 0 l
def numL (l : List UInt8) : Option Int :=
  if l.head? = some 45 then (if l.tail.head? = some 48 then none else Option.map (fun u : Nat => -(u : Int)) (numU l.tail))
  else if l.head? = some 48 ∧ 1 < l.length then none else Option.map (fun u : Nat => (u : Int)) (numU l)
theorem dec_head (u : Nat) (h : u ≠ 0) : (Lib.decDigits u).head? ≠ some 48 := by
  induction u using Nat.strongRecOn with
  | ind u ih =>
    rw [Lib.decDigits]
    by_cases h10 : u < 10
    · rw [dif_pos h10]
      intro e
      simp only [List.head?_cons, Option.some.injEq] at e
      have e2 : (UInt8.ofNat (48 + u)).toNat = 48 := by rw [e]; rfl
      rw [UInt8.toNat_ofNat'] at e2
      omega
    · rw [dif_neg h10, List.head?_append]
      have := ih (u / 10) (by omega) (by omega)
      cases hh : (Lib.decDigits (u / 10)).head? with
      | none =>
        have hz : (Lib.decDigits (u / 10)).length = 0 := by simpa [List.head?_eq_none_iff] using hh
        rw [Lib.decDigits_length] at hz
        have := Lib.nDigits_pos (u / 10)
        omega
      | some x => rw [hh] at this; simpa using this
theorem dec_digits (u : Nat) : ∀ c ∈ Lib.decDigits u, 48 ≤ c.toNat ∧ c.toNat ≤ 57 := by
  induction u using Nat.strongRecOn with
  | ind u ih =>
    intro c hc
    rw [Lib.decDigits] at hc
    by_cases h10 : u < 10
    · rw [dif_pos h10] at hc
      rw [List.mem_singleton.1 hc, UInt8.toNat_ofNat']; omega
    · rw [dif_neg h10] at hc
      rcases List.mem_append.1 hc with hc | hc
      · exact ih (u / 10) (by omega) c hc
      · rw [List.mem_singleton.1 hc, UInt8.toNat_ofNat']; omega
theorem dec_len (u k : Nat) (hk : 1 ≤ k) : (Lib.decDigits u).length ≤ k ↔ u < 10 ^ k := by
  rw [Lib.decDigits_length]
  constructor
  · intro h
    exact Nat.lt_of_lt_of_le (Lib.lt_pow_nDigits u) (Nat.pow_le_pow_right (by omega) h)
  · intro h
    by_cases hh : Lib.nDigits u ≤ k
    · exact hh
    · exfalso
      have h2 := Lib.decDigits_length u
      have h3 : ∀ (n u : Nat), Lib.nDigits u = n + 2 → 10 ^ (n + 1) ≤ u := by
        intro n
        induction n with
        | zero =>
          intro u hu
          by_cases h10 : u < 10
          · rw [Lib.nDigits_small h10] at hu; omega
          · omega
        | succ n ih =>
          intro u hu
          by_cases h10 : u < 10
          · rw [Lib.nDigits_small h10] at hu; omega
          · rw [Lib.nDigits_big h10] at hu
            have := ih (u / 10) (by omega)
            rw [Nat.pow_succ]
            omega
      have h4 := h3 (Lib.nDigits u - 2) u (by omega)
      have h5 : 10 ^ k ≤ 10 ^ (Lib.nDigits u - 2 + 1) := Nat.pow_le_pow_right (by omega) (by omega)
      omega
theorem numU_iff (l : List UInt8) (u : Nat) (h : l.head? = some 48 → l.length = 1) : numU l = some u ↔ Lib.decDigits u = l ∧ u < 10 ^ 18 := by
  unfold numU
  split
  · rename_i hl
    constructor
    · intro e; cases e
    · rintro ⟨rfl, h2⟩
      have h3 := (dec_len u 18 (by omega)).2 h2
      have h4 := Lib.nDigits_pos u
      rw [← Lib.decDigits_length] at h4
      omega
  · rename_i hl
    constructor
    · intro e
      have := dec_of_dvals l.length l u (Nat.le_refl _) (fun e => hl (.inl (by rw [e]; rfl))) h e
      exact ⟨this, (dec_len u 18 (by omega)).1 (by rw [this]; omega)⟩
    · rintro ⟨rfl, _⟩
      exact dvals_dec u
theorem numL_iff (l : List UInt8) (v : Int) : numL l = some v ↔ Lib.itoa v = l ∧ v.natAbs < 10 ^ 18 := by
  have dh45 : ∀ u, (Lib.decDigits u).head? ≠ some 45 := by
    intro u e
    have := dec_digits u 45 (List.mem_of_head? e)
    simp at this
  unfold numL
  split
  · rename_i h45
    obtain ⟨r, rfl⟩ : ∃ r, l = 45 :: r := by
      cases l with
      | nil => simp at h45
      | cons c r => simp at h45; subst h45; exact ⟨r, rfl⟩
    show ((if r.head? = some 48 then none else Option.map (fun u : Nat => -(u : Int)) (numU r)) = some v ↔ _)
    by_cases h48 : r.head? = some 48
    · rw [if_pos h48]
      constructor
      · intro e; cases e
      · rintro ⟨e, _⟩
        exfalso
        unfold Lib.itoa at e
        split at e
        · injection e with _ e
          rw [← e] at h48
          exact dec_head _ (by omega) h48
        · exact dh45 _ (by rw [e]; rfl)
    · rw [if_neg h48]
      constructor
      · intro e
        cases hu : numU r with
        | none => rw [hu] at e; cases e
        | some u =>
          rw [hu] at e
          simp only [Option.map_some, Option.some.injEq] at e
          obtain ⟨h1, h2⟩ := (numU_iff r u (fun e => absurd e h48)).1 hu
          have hu0 : u ≠ 0 := by
            rintro rfl
            rw [← h1, Lib.decDigits, dif_pos (by omega)] at h48
            exact h48 rfl
          subst e
          refine ⟨?_, by omega⟩
          rw [Lib.itoa, if_pos (by omega), show (-(u : Int)).natAbs = u by omega, h1]
      · rintro ⟨e, h2⟩
        unfold Lib.itoa at e
        split at e
        · rename_i hv
          injection e with _ e
          rw [(numU_iff r v.natAbs (fun e => absurd e h48)).2 ⟨e, h2⟩]
          simp only [Option.map_some, Option.some.injEq]; omega
        · exact absurd (by rw [e]; rfl) (dh45 v.toNat)
  · rename_i h45
    have ei : ∀ v : Int, Lib.itoa v = l → 0 ≤ v ∧ Lib.decDigits v.natAbs = l := by
      intro v e
      unfold Lib.itoa at e
      split at e
      · exact absurd (by rw [← e]; rfl) h45
      · rename_i hv; exact ⟨by omega, by rw [show v.natAbs = v.toNat by omega]; exact e⟩
    split
    · rename_i h48
      constructor
      · intro e; cases e
      · rintro ⟨e, _⟩
        exfalso
        obtain ⟨h0, h1⟩ := ei v e
        by_cases hz : v.natAbs = 0
        · rw [hz, Lib.decDigits, dif_pos (by omega)] at h1
          rw [← h1] at h48
          simp at h48
        · exact dec_head _ hz (by rw [h1]; exact h48.1)
    · rename_i h48
      have hh : l.head? = some 48 → l.length = 1 := fun e => by
        have : ¬ 1 < l.length := fun e2 => h48 ⟨e, e2⟩
        have : l.length ≠ 0 := fun e2 => by rw [List.eq_nil_of_length_eq_zero e2] at e; cases e
        omega
      constructor
      · intro e
        cases hu : numU l with
        | none => rw [hu] at e; cases e
        | some u =>
          rw [hu] at e
          simp only [Option.map_some, Option.some.injEq] at e
          obtain ⟨h1, h2⟩ := (numU_iff l u hh).1 hu
          subst e
          refine ⟨?_, by omega⟩
          rw [Lib.itoa, if_neg (by omega)]
          simpa using h1
      · rintro ⟨e, h2⟩
        obtain ⟨h0, h1⟩ := ei v e
        rw [(numU_iff l v.natAbs hh).2 ⟨h1, h2⟩]
        simp only [Option.map_some, Option.some.injEq]; omega
theorem parse_of_dvals (M : Nat) : ∀ (l : List UInt8) (acc n : Nat), dvals acc l = some n → n < 1844674407370955162 → n ≤ M → Lib.parseUintM M acc l = .ok n
  | [], acc, n, h, _, _ => by simp only [dvals] at h; injection h with h; subst h; rfl
  | c :: l, acc, n, h, h1, h2 => by
    have mono : ∀ (l : List UInt8) (a n : Nat), dvals a l = some n → a ≤ n := by
      intro l
      induction l with
      | nil => intro a n h; simp only [dvals] at h; injection h with h; omega
      | cons c l ih =>
        intro a n h
        rw [dvals] at h
        split at h
        · have := ih _ _ h; omega
        · cases h
    rw [dvals] at h
    split at h
    · rename_i hc
      have hm := mono _ _ _ h
      rw [Lib.parseUintM, if_pos hc, if_neg (by omega), if_neg (by omega), show acc * 10 + (c.toNat - 48) = 10 * acc + (c.toNat - 48) by omega]
      exact parse_of_dvals M l _ n h h1 h2
    · cases h
theorem parse_itoa (v : Int) (h : v.natAbs < 10 ^ 18) : Lib.parseIntB 64 (Lib.itoa v) = .ok v := by
  have hp : ∀ u : Nat, u < 10 ^ 18 → Lib.parseUintB 64 (Lib.decDigits u) = .ok u := by
    intro u hu
    have hne : Lib.decDigits u ≠ [] := by
      intro e
      have := Lib.nDigits_pos u
      rw [← Lib.decDigits_length, e] at this
      simp at this
    rw [Lib.parseUintB, if_neg hne]
    exact parse_of_dvals _ _ 0 u (dvals_dec u) (by omega) (by omega)
  unfold Lib.itoa
  split
  · rename_i hv
    rw [Lib.parseIntB_minus, hp _ h, Lib.signedC]
    rw [if_neg (by omega)]
    congr 1; omega
  · rename_i hv
    have hpos : ∃ c r, Lib.decDigits v.toNat = c :: r := by
      cases hd : Lib.decDigits v.toNat with
      | nil =>
        have := Lib.nDigits_pos v.toNat
        rw [← Lib.decDigits_length, hd] at this
        simp at this
      | cons c r => exact ⟨c, r, rfl⟩
    obtain ⟨c, r, hcr⟩ := hpos
    have hc := dec_digits v.toNat c (by rw [hcr]; simp)
    have hq := hp v.toNat (by omega)
    rw [hcr] at hq ⊢
    rw [Lib.parseIntB_plain 64 c r (by omega) (by omega), hq, Lib.signlessC]
    rw [if_neg (by omega)]
    congr 1; omega
/-- the program's reading -/
def readL (l : List UInt8) : Option Int :=
  if 18 < (Lib.trimPrefix l [45]).length then none else
    match Lib.parseIntB 64 l with
    | .ok v => if Lib.itoa v = l then some v else none
    | _ => none
theorem trim_itoa (v : Int) : Lib.trimPrefix (Lib.itoa v) [45] = Lib.decDigits v.natAbs := by
  unfold Lib.itoa Lib.trimPrefix Lib.hasPrefix
  split
  · simp [List.isPrefixOf]
  · rename_i hv
    rw [show v.natAbs = v.toNat by omega]
    have : ([45] : List UInt8).isPrefixOf (Lib.decDigits v.toNat) = false := by
      cases hd : Lib.decDigits v.toNat with
      | nil => rfl
      | cons c r =>
        have := dec_digits v.toNat c (by rw [hd]; simp)
        simp only [List.isPrefixOf, Bool.and_eq_false_imp]
        intro e
        have := beq_iff_eq.1 e
        subst this
        simp at this
    rw [this]; rfl
theorem readL_iff (l : List UInt8) (v : Int) : readL l = some v ↔ Lib.itoa v = l ∧ v.natAbs < 10 ^ 18 := by
  unfold readL
  constructor
  · intro h
    split at h
    · cases h
    · rename_i hl
      split at h
      · rename_i u hu
        split at h
        · rename_i hi
          injection h with h
          subst h
          refine ⟨hi, (dec_len _ 18 (by omega)).1 ?_⟩
          rw [← trim_itoa, hi]; omega
        · cases h
      · cases h
  · rintro ⟨rfl, h2⟩
    have := (dec_len _ 18 (by omega)).2 h2
    rw [trim_itoa, if_neg (by omega), parse_itoa v h2]
    simp
theorem readL_num (l : List UInt8) : readL l = numL l := by
  cases h : numL l with
  | some v => exact (readL_iff l v).2 ((numL_iff l v).1 h)
  | none =>
    cases h2 : readL l with
    | none => rfl
    | some v => rw [(numL_iff l v).2 ((readL_iff l v).1 h2)] at h; cases h
theorem numL_i64 {l : List UInt8} {v : Int} (h : numL l = some v) : -1000000000000000000 < v ∧ v < 1000000000000000000 := by
  have := ((numL_iff l v).1 h).2
  omega
end Go.Proofs.YtabbhlehbhadiaaGreatDoor
