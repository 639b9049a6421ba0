/- The fewest arcs of a circle of colors: built one after the other, and each with its end looked for; plain. -/
import Derived.Test.YtabbhlehbhadiaaGreatDoorColor
namespace Go.Proofs.YtabbhlehbhadiaaGreatDoor
open Go.RowKit Go.Sort
set_option maxRecDepth 100000

abbrev Circ := Int → ByteArray
/-- a bearing whose color begins there -/
def stB (c : Circ) (d : Int) : Bool := !(decide (c d = c ((d + 359) % 360)))
def emp : ByteArray := ⟨#[]⟩
def isD (c : Circ) (d : Int) : Bool := decide (c d = emp)
/-- the last arc's end is told -/
def setTo : List SectorD → Int → List SectorD
  | [], _ => []
  | [s], t => [⟨s.fFrom, t, s.fColor⟩]
  | s :: l, t => s :: setTo l t
theorem setTo_len : ∀ (l : List SectorD) (t : Int), (setTo l t).length = l.length
  | [], _ => rfl
  | [s], _ => rfl
  | s :: u :: l, t => by rw [setTo]; simp [setTo_len (u :: l) t]; simp
theorem setTo_snoc : ∀ (l : List SectorD) (s : SectorD) (t : Int), setTo (l ++ [s]) t = l ++ [⟨s.fFrom, t, s.fColor⟩]
  | [], s, t => rfl
  | [u], s, t => rfl
  | u :: v :: l, s, t => by
    have := setTo_snoc (v :: l) s t
    simp only [List.cons_append] at this ⊢
    rw [setTo, this]
    simp
/-- the arcs of the bearings below n, the last one still open -/
def arcsP (c : Circ) : Nat → List SectorD
  | 0 => []
  | n + 1 => if stB c n then setTo (arcsP c n) n ++ [⟨n, 0, c n⟩] else arcsP c n
def arcsF (c : Circ) : List SectorD := match arcsP c 360 with | [] => [⟨0, 0, c 0⟩] | s :: l => setTo (s :: l) s.fFrom
/-- the starts below n -/
def sts (c : Circ) : Nat → List Int
  | 0 => []
  | n + 1 => if stB c n then sts c n ++ [(n : Int)] else sts c n
/-- each start with the next one; the last with e -/
def zipE (c : Circ) (e : Int) : List Int → List SectorD
  | [] => []
  | [d] => [⟨d, e, c d⟩]
  | d :: d' :: l => ⟨d, d', c d⟩ :: zipE c e (d' :: l)
theorem zipE_setTo (c : Circ) (e e' : Int) : ∀ l, setTo (zipE c e l) e' = zipE c e' l
  | [] => rfl
  | [d] => rfl
  | d :: d' :: l => by
    have ih := zipE_setTo c e e' (d' :: l)
    have hne : zipE c e (d' :: l) ≠ [] := by cases l <;> simp [zipE]
    obtain ⟨s, m, hs⟩ := List.exists_cons_of_ne_nil hne
    simp only [zipE] at ih ⊢
    rw [hs] at ih ⊢
    rw [setTo, ih]
    simp
theorem zipE_snoc (c : Circ) (e n : Int) : ∀ l, zipE c e (l ++ [n]) = zipE c n l ++ [⟨n, e, c n⟩]
  | [] => rfl
  | [d] => rfl
  | d :: d' :: l => by
    have ih := zipE_snoc c e n (d' :: l)
    simp only [List.cons_append, zipE] at ih ⊢
    rw [ih]
theorem arcsP_zip (c : Circ) : ∀ n, arcsP c n = zipE c 0 (sts c n)
  | 0 => rfl
  | n + 1 => by
    rw [arcsP, sts, arcsP_zip c n]
    split
    · rw [zipE_setTo, zipE_snoc]
    · rfl
theorem sts_lt (c : Circ) : ∀ n : Nat, ∀ d ∈ sts c n, 0 ≤ d ∧ d < n
  | 0, d, h => by simp [sts] at h
  | n + 1, d, h => by
    rw [sts] at h
    split at h
    · rcases List.mem_append.1 h with h | h
      · have := sts_lt c n d h; omega
      · simp at h; omega
    · have := sts_lt c n d h; omega
theorem sts_st (c : Circ) : ∀ n : Nat, ∀ d ∈ sts c n, stB c d = true
  | 0, d, h => by simp [sts] at h
  | n + 1, d, h => by
    rw [sts] at h
    split at h
    · rcases List.mem_append.1 h with h | h
      · exact sts_st c n d h
      · simp at h; subst h; assumption
    · exact sts_st c n d h
theorem sts_mem (c : Circ) : ∀ (n : Nat) (d : Int), 0 ≤ d → d < n → stB c d = true → d ∈ sts c n
  | 0, d, h0, h1, _ => by omega
  | n + 1, d, h0, h1, hs => by
    rw [sts]
    by_cases e : d = n
    · subst e; rw [if_pos hs]; simp
    · have := sts_mem c n d h0 (by omega) hs
      split
      · exact List.mem_append_left _ this
      · exact this
theorem sts_pair (c : Circ) : ∀ n : Nat, (sts c n).Pairwise (· < ·)
  | 0 => List.Pairwise.nil
  | n + 1 => by
    rw [sts]
    split
    · refine List.pairwise_append.2 ⟨sts_pair c n, List.pairwise_singleton _ _, fun a ha b hb => ?_⟩
      simp at hb; subst hb; exact (sts_lt c n a ha).2
    · exact sts_pair c n
/-- the first bearing behind d of another color, looked for up to m steps -/
def endF (c : Circ) (d : Int) : Nat → Int → Int
  | 0, t => t
  | m + 1, t => if c (t % 360) = c d then endF c d m (t + 1) else t
theorem endF_at (c : Circ) (d : Int) : ∀ (m : Nat) (t e : Int), t ≤ e → e - t ≤ m → (∀ x, t ≤ x → x < e → c (x % 360) = c d) → c (e % 360) ≠ c d → endF c d m t = e
  | 0, t, e, h1, h2, _, _ => by unfold endF; omega
  | m + 1, t, e, h1, h2, h3, h4 => by
    rw [endF]
    by_cases he : t = e
    · subst he; rw [if_neg h4]
    · rw [if_pos (h3 t (by omega) (by omega))]
      exact endF_at c d m (t + 1) e (by omega) (by omega) (fun x hx => h3 x (by omega)) h4
def endC (c : Circ) (d : Int) : Int := endF c d 720 d % 360
/-- the arcs of the bearings below n whose colors are dark, or are not -/
def simpP (c : Circ) (dark : Bool) : Nat → List SectorD
  | 0 => []
  | n + 1 => if stB c n && (isD c n == dark) then simpP c dark n ++ [⟨n, endC c n, c n⟩] else simpP c dark n
def simpF (c : Circ) (dark : Bool) : List SectorD := if simpP c dark 360 = [] ∧ isD c 0 = dark ∧ sts c 360 = [] then [⟨0, 0, c 0⟩] else simpP c dark 360
theorem simpP_filter (c : Circ) (dark : Bool) : ∀ n, simpP c dark n = ((sts c n).filter fun d => isD c d == dark).map fun d => ⟨d, endC c d, c d⟩
  | 0 => rfl
  | n + 1 => by
    rw [simpP, sts, simpP_filter c dark n]
    cases h : stB c n
    · simp
    · simp only [Bool.true_and, if_true, List.filter_append, List.map_append]
      cases h2 : isD c n == dark <;> simp [h2]
/-- no start between: one color -/
theorem run_eq (c : Circ) {a b : Int} (ha : 0 ≤ a) (hb : b ≤ 360) (h : ∀ d, a < d → d < b → stB c d = false) : ∀ (n : Nat) (x : Int), a ≤ x → x < b → x - a = n → c x = c a
  | 0, x, h1, h2, h3 => by rw [show x = a by omega]
  | n + 1, x, h1, h2, h3 => by
    have hx := h x (by omega) h2
    have ih := run_eq c ha hb h n (x - 1) (by omega) (by omega) (by omega)
    simp only [stB, Bool.not_eq_false', decide_eq_true_eq] at hx
    rw [hx, show (x + 359) % 360 = x - 1 by omega, ih]
theorem sts_gap (c : Circ) {l l' : List Int} {d d' : Int} (h : sts c 360 = l ++ d :: d' :: l') : ∀ x, d < x → x < d' → stB c x = false := by
  intro x h1 h2
  have hp := sts_pair c 360
  have hd := sts_lt c 360 d (by rw [h]; simp)
  have hd' := sts_lt c 360 d' (by rw [h]; simp)
  cases hs : stB c x
  · rfl
  · have hm := sts_mem c 360 x (by omega) (by omega) hs
    rw [h] at hm hp
    rw [List.pairwise_append] at hp
    obtain ⟨_, p2, p3⟩ := hp
    rw [List.pairwise_cons] at p2
    obtain ⟨p4, p5⟩ := p2
    rw [List.pairwise_cons] at p5
    rcases List.mem_append.1 hm with hm | hm
    · have := p3 x hm d (by simp); omega
    · rcases List.mem_cons.1 hm with rfl | hm
      · omega
      · rcases List.mem_cons.1 hm with rfl | hm
        · omega
        · have := p5.1 x hm; omega
theorem sts_last (c : Circ) {l : List Int} {d : Int} (h : sts c 360 = l ++ [d]) : ∀ x, d < x → x < 360 → stB c x = false := by
  intro x h1 h2
  have hp := sts_pair c 360
  have hd := sts_lt c 360 d (by rw [h]; simp)
  cases hs : stB c x
  · rfl
  · have hm := sts_mem c 360 x (by omega) (by omega) hs
    rw [h] at hm hp
    rw [List.pairwise_append] at hp
    rcases List.mem_append.1 hm with hm | hm
    · have := hp.2.2 x hm d (by simp); omega
    · simp at hm; omega
theorem sts_first (c : Circ) {l : List Int} {d : Int} (h : sts c 360 = d :: l) : ∀ x, 0 ≤ x → x < d → stB c x = false := by
  intro x h1 h2
  have hp := sts_pair c 360
  have hd := sts_lt c 360 d (by rw [h]; simp)
  cases hs : stB c x
  · rfl
  · have hm := sts_mem c 360 x (by omega) (by omega) hs
    rw [h] at hm hp
    rw [List.pairwise_cons] at hp
    rcases List.mem_cons.1 hm with rfl | hm
    · omega
    · have := hp.1 x hm; omega
theorem st_ne {c : Circ} {d : Int} (h : stB c d = true) : c d ≠ c ((d + 359) % 360) := by simpa [stB] using h
theorem end_next (c : Circ) {l l' : List Int} {d d' : Int} (h : sts c 360 = l ++ d :: d' :: l') : endC c d = d' := by
  have hg := sts_gap c h
  have hp := sts_pair c 360
  have hd := sts_lt c 360 d (by rw [h]; simp)
  have hd' := sts_lt c 360 d' (by rw [h]; simp)
  have hlt : d < d' := by
    rw [h, List.pairwise_append] at hp
    have := hp.2.1; rw [List.pairwise_cons] at this
    exact this.1 d' (by simp)
  have hne := st_ne (sts_st c 360 d' (by rw [h]; simp))
  have hc : ∀ x, d ≤ x → x < d' → c x = c d := fun x h1 h2 => run_eq c hd.1 (by omega) hg (x - d).toNat x h1 h2 (by omega)
  unfold endC
  rw [endF_at c d 720 d d' (by omega) (by omega) (fun x h1 h2 => by rw [show x % 360 = x by omega]; exact hc x h1 h2)
    (by rw [show d' % 360 = d' by omega, ← hc (d' - 1) (by omega) (by omega), show d' - 1 = (d' + 359) % 360 by omega]; exact hne)]
  omega
theorem end_last (c : Circ) {l m : List Int} {d f : Int} (h : sts c 360 = l ++ [d]) (hf : sts c 360 = f :: m) : endC c d = f := by
  have hg := sts_last c h
  have hk := sts_first c hf
  have hd := sts_lt c 360 d (by rw [h]; simp)
  have hff := sts_lt c 360 f (by rw [hf]; simp)
  have hne := st_ne (sts_st c 360 f (by rw [hf]; simp))
  have hfd : f ≤ d := by
    have hp := sts_pair c 360
    have hm : d ∈ f :: m := by rw [← hf, h]; simp
    rw [hf, List.pairwise_cons] at hp
    rcases List.mem_cons.1 hm with rfl | hm
    · omega
    · have := hp.1 d hm; omega
  have hc : ∀ x, d ≤ x → x < 360 → c x = c d := fun x h1 h2 => run_eq c hd.1 (by omega) hg (x - d).toNat x h1 h2 (by omega)
  have hc0 : 0 < f → c 0 = c d := fun h0 => by
    have := hk 0 (by omega) h0
    simp only [stB, Bool.not_eq_false', decide_eq_true_eq] at this
    rw [this]; exact hc 359 (by omega) (by omega)
  have hcf : ∀ x, 0 ≤ x → x < f → c x = c d := fun x h1 h2 => by
    rw [← hc0 (by omega)]; exact run_eq c (a := 0) (b := f) (by omega) (by omega) (fun y hy hy' => hk y (by omega) hy') x.toNat x h1 h2 (by omega)
  unfold endC
  rw [endF_at c d 720 d (f + 360) (by omega) (by omega) (fun x h1 h2 => by
      by_cases hx : x < 360
      · rw [show x % 360 = x by omega]; exact hc x h1 hx
      · rw [show x % 360 = x - 360 by omega]; exact hcf _ (by omega) (by omega))
    (by
      rw [show (f + 360) % 360 = f by omega]
      by_cases h0 : 0 < f
      · rw [← hcf (f - 1) (by omega) (by omega), show f - 1 = (f + 359) % 360 by omega]; exact hne
      · rw [← hc 359 (by omega) (by omega), show (359 : Int) = (f + 359) % 360 by omega]; exact hne)]
  omega
theorem zip_ends (c : Circ) {f : Int} {m : List Int} (hf : sts c 360 = f :: m) : ∀ (l' l : List Int), sts c 360 = l ++ l' → zipE c f l' = l'.map fun d => ⟨d, endC c d, c d⟩
  | [], l, _ => rfl
  | [d], l, h => by simp only [zipE, List.map_cons, List.map_nil]; rw [end_last c h hf]
  | d :: d' :: l', l, h => by
    rw [zipE, List.map_cons, end_next c h, zip_ends c hf (d' :: l') (l ++ [d]) (by rw [h]; simp)]
theorem arcsF_eq (c : Circ) : arcsF c = if sts c 360 = [] then [⟨0, 0, c 0⟩] else (sts c 360).map fun d => ⟨d, endC c d, c d⟩ := by
  unfold arcsF
  rw [arcsP_zip]
  cases h : sts c 360 with
  | nil => simp [zipE]
  | cons f m =>
    rw [if_neg (by simp)]
    have hz := zip_ends c h (f :: m) [] (by rw [h]; rfl)
    have hs := zipE_setTo c 0 f (f :: m)
    cases m with
    | nil => simp only [zipE] at hs hz ⊢; rw [hs, hz]
    | cons g m => simp only [zipE] at hs hz ⊢; rw [hs, hz]
theorem arcs_simp (c : Circ) (dark : Bool) : (arcsF c).filter (fun s => decide (s.fColor = emp) == dark) = simpF c dark := by
  rw [arcsF_eq, simpF, simpP_filter]
  by_cases h : sts c 360 = []
  · rw [if_pos h, h]
    cases h2 : isD c 0 == dark
    · have : ¬ isD c 0 = dark := by intro e; rw [e] at h2; simp at h2
      rw [isD] at h2
      simp [h2, this]
    · have : isD c 0 = dark := by simpa using h2
      rw [isD] at h2
      simp [h2, this]
  · rw [if_neg h, if_neg (fun k => h k.2.2), List.filter_map]
    rfl
theorem simpP_len (c : Circ) (dark : Bool) : ∀ n, (simpP c dark n).length ≤ n
  | 0 => by simp [simpP]
  | n + 1 => by have := simpP_len c dark n; rw [simpP]; split <;> simp <;> omega
theorem simpF_len (c : Circ) (dark : Bool) : (simpF c dark).length ≤ 360 := by
  unfold simpF; split
  · simp
  · exact simpP_len c dark 360
theorem arcsP_len (c : Circ) : ∀ n, (arcsP c n).length ≤ n
  | 0 => by simp [arcsP]
  | n + 1 => by have := arcsP_len c n; rw [arcsP]; split <;> simp [setTo_len] <;> omega
end Go.Proofs.YtabbhlehbhadiaaGreatDoor
