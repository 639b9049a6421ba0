/- Orders of works: what one is, and its load; plain. -/
import Derived.Test.YtmolcfagmiecjaaWorks
namespace Go.Proofs.Ytmolcfagmiecjaa
open Go.RowKit Go.Sort
set_option maxRecDepth 100000

theorem SlA.take {α : Type} {w : World} {lo n len cap : Nat} {ad : Option Addr} {enc : α → List Value} {xs : List α} (h : SlA w lo n enc (.slice ad len cap) xs) {i : Nat} (hi : i ≤ xs.length) : SlA w lo n enc (.slice ad i cap) (xs.take i) := by
  rcases h with ⟨a, c, e, rfl, hm⟩ | ⟨b, off, c, e, hp, hc, hm, hlo, hb, hx⟩
  · simp only [Value.slice.injEq] at e
    obtain ⟨rfl, rfl, rfl⟩ := e
    have : i = 0 := by simpa using hi
    subst this
    exact .inl ⟨_, _, rfl, by simp, hm⟩
  · simp only [Value.slice.injEq] at e
    obtain ⟨rfl, rfl, rfl⟩ := e
    by_cases h0 : i = 0
    · subst h0; exact .inl ⟨_, _, rfl, by simp, hm⟩
    · refine .inr ⟨b, off, cap, by rw [List.length_take, Nat.min_eq_left hi], by rw [List.length_take]; omega, by rw [List.length_take]; omega, hm, hlo, hb, fun j hj q hq => ?_⟩
      rw [List.getElem_take]; exact hx j (by rw [List.length_take] at hj; omega) q hq
def hasB (xs : List Int) (n : Int) : Bool := xs.contains n
def ordS (m : Nat) (os : List Int) (i : Nat) : Bool := match os[i]? with | some k => inB k 0 ((m : Int) - 1) && !(hasB (os.take i) k) | none => false
def ordB (m : Nat) (os : List Int) : Bool := allB (ordS m os) os.length
theorem ordS_get {m : Nat} {os : List Int} {i : Nat} (h : i < os.length) : ordS m os i = (inB os[i] 0 ((m : Int) - 1) && !(hasB (os.take i) os[i])) := by simp [ordS, h]
theorem ordB_true {m : Nat} {os : List Int} (h : ordB m os = true) : ∀ i, (hi : i < os.length) → 0 ≤ os[i] ∧ os[i] < m := fun i hi => by
  have := of_allB h i hi
  rw [ordS_get hi, Bool.and_eq_true] at this
  have := inB_true this.1; omega
theorem ordB_step {m : Nat} {os : List Int} {k : Nat} (hk : k < os.length) (h : ordS m os k = false) : ordB m os = false := allB_false h hk
def ldA (ws : List WorkD) (k : Int) : Int := match ws[k.toNat]? with | some d => d.fLoad | none => 0
def ldF (ws : List WorkD) (os : List Int) : Nat → Int
  | 0 => 0
  | n + 1 => ldF ws os n + (match os[n]? with | some k => ldA ws k | none => 0)
theorem ldA_get {ws : List WorkD} {k : Int} (h0 : 0 ≤ k) (h : k.toNat < ws.length) : ldA ws k = ws[k.toNat].fLoad := by simp [ldA, h]
theorem ldF_succ {ws : List WorkD} {os : List Int} {n : Nat} (h : n < os.length) : ldF ws os (n + 1) = ldF ws os n + ldA ws os[n] := by simp [ldF, h]
theorem works_all {ws : List WorkD} (h : worksB ws = true) : ws.length ≤ 12 ∧ ∀ i, (hi : i < ws.length) → workD ws[i] = true := by
  simp only [worksB, risesB, Bool.and_eq_true, decide_eq_true_eq] at h
  refine ⟨by omega, fun i hi => ?_⟩
  have := of_allB h.1 i hi
  simp only [stepB, Bool.and_eq_true] at this
  rw [oneAt_get _ _ _ hi] at this; exact this.1
theorem workD_true {d : WorkD} (h : workD d = true) : pointB d.fAtX d.fAtY = true ∧ 0 ≤ d.fLoad ∧ d.fLoad ≤ 1000 ∧ 1 ≤ d.fMinutes ∧ d.fMinutes ≤ 600 ∧ 0 ≤ d.fFrom ∧ d.fFrom ≤ 4320 ∧ d.fFrom + d.fMinutes ≤ d.fUntil ∧ d.fUntil ≤ 4320 := by
  simp only [workD, workB, Bool.and_eq_true] at h
  obtain ⟨⟨⟨⟨⟨-, h1⟩, h2⟩, h3⟩, h4⟩, h5⟩ := h
  have := inB_true h2; have := inB_true h3; have := inB_true h4; have := inB_true h5
  exact ⟨h1, by omega, by omega, by omega, by omega, by omega, by omega, by omega, by omega⟩
theorem ldA_bd {ws : List WorkD} (h : worksB ws = true) (k : Int) : 0 ≤ ldA ws k ∧ ldA ws k ≤ 1000 := by
  unfold ldA
  split
  · rename_i d hd
    obtain ⟨hi, rfl⟩ := List.getElem?_eq_some_iff.1 hd
    have := workD_true ((works_all h).2 _ hi); omega
  · omega
theorem ldF_bd {ws : List WorkD} (h : worksB ws = true) (os : List Int) : ∀ n : Nat, 0 ≤ ldF ws os n ∧ ldF ws os n ≤ 1000 * n
  | 0 => by simp [ldF]
  | n + 1 => by
    have := ldF_bd h os n
    simp only [ldF]
    split
    · rename_i k _; have := ldA_bd h k; omega
    · omega
def loV (ws : List WorkD) (os : List Int) : Int := if worksB ws && ordB ws.length os then ldF ws os os.length else 0
def orC (ws : List WorkD) (os : List Int) : Int := if worksB ws then (if ordB ws.length os then 0 else 7) else 1
def restF (os : List Int) : Nat → List Int
  | 0 => []
  | n + 1 => restF os n ++ (if hasB os (n : Int) then [] else [(n : Int)])
theorem restF_len (os : List Int) : ∀ n, (restF os n).length ≤ n
  | 0 => by simp [restF]
  | n + 1 => by have := restF_len os n; simp only [restF, List.length_append]; split <;> simp <;> omega
theorem restF_t {os : List Int} {n : Nat} (h : hasB os (n : Int) = true) : restF os (n + 1) = restF os n := by rw [restF, h]; simp
theorem restF_f {os : List Int} {n : Nat} (h : hasB os (n : Int) = false) : restF os (n + 1) = restF os n ++ [(n : Int)] := by rw [restF, h]; simp
def resV (ws : List WorkD) (os : List Int) : List Int := if worksB ws && ordB ws.length os then restF os ws.length else []
theorem hasB_nil (n : Int) : hasB [] n = false := rfl
theorem hasB_iff {xs : List Int} {n : Int} : hasB xs n = true ↔ n ∈ xs := by simp [hasB]
theorem contains_drop (xs : List Int) (k : Nat) (h : k < xs.length) (n : Int) : hasB (xs.drop k) n = (xs[k] == n || hasB (xs.drop (k + 1)) n) := by
  rw [hasB, drop_cons xs k h, List.contains_cons, hasB]
  congr 1
  rw [Bool.eq_iff_iff, beq_iff_eq, beq_iff_eq]; exact ⟨Eq.symm, Eq.symm⟩
end Go.Proofs.Ytmolcfagmiecjaa
