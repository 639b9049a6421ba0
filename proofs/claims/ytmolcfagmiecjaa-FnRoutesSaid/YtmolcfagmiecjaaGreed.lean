/- The greedy voyage: what an order with one work more comes to; plain. -/
import Derived.Test.YtmolcfagmiecjaaVoyL
namespace Go.Proofs.Ytmolcfagmiecjaa
open Go.RowKit Go.Sort
set_option maxRecDepth 100000

theorem ldF_pre (ws : List WorkD) (os : List Int) (k : Int) : ∀ n : Nat, n ≤ os.length → ldF ws (os ++ [k]) n = ldF ws os n
  | 0, _ => rfl
  | n + 1, h => by
    have h1 : n < os.length := by omega
    have h2 : n < (os ++ [k]).length := by simp; omega
    rw [ldF_succ h1, ldF_succ h2, ldF_pre ws os k n (by omega), List.getElem_append_left h1]
theorem ldF_snoc (ws : List WorkD) (os : List Int) (k : Int) : ldF ws (os ++ [k]) (os ++ [k]).length = ldF ws os os.length + ldA ws k := by
  have h : os.length < (os ++ [k]).length := by simp
  rw [show (os ++ [k]).length = os.length + 1 by simp, ldF_succ h, ldF_pre ws os k _ (Nat.le_refl _)]
  simp
/-- what the next work would come to: its end, if it can be added -/
def nextE (a ld : Int) (ws : List WorkD) (os : List Int) (px py t l : Int) (k : Int) : Option Int :=
  if hasB os k then none else if l + ldA ws k > ld then none else if (mkC a px py t k (wK ws k)).fEnd ≤ (wK ws k).fUntil then some (mkC a px py t k (wK ws k)).fEnd else none
theorem endK_next {a ld bx bY t0 : Int} {ws : List WorkD} {os : List Int} {cs : List CallD} (hc : callsF a ws os bx bY t0 = some cs) (k : Int) :
    endK a ld bx bY ws t0 os k = nextE a ld ws os (lpx ws bx os) (lpy ws bY os) (lpt t0 cs) (ldF ws os os.length) k := by
  unfold endK nextE
  split
  · rfl
  · by_cases hl : ldF ws os os.length + ldA ws k > ld
    · rw [if_pos hl]
      have : voyC a ld bx bY ws (os ++ [k]) t0 = 5 := by rw [voyC, ldF_snoc, if_pos hl]
      rw [this]; rfl
    · rw [if_neg hl]
      have hs := callsF_snoc (sp := a) (ws := ws) (os := os) (k := k) (px := bx) (py := bY) (t := t0)
      rw [hc, Option.bind_some] at hs
      unfold addC at hs
      by_cases he : (mkC a (lpx ws bx os) (lpy ws bY os) (lpt t0 cs) k (wK ws k)).fEnd ≤ (wK ws k).fUntil
      · rw [if_pos he] at hs
        rw [if_pos he]
        have h1 : voyC a ld bx bY ws (os ++ [k]) t0 = 0 := by rw [voyC, ldF_snoc, if_neg hl, hs]
        have h2 : voyL a ld bx bY ws (os ++ [k]) t0 = cs ++ [mkC a (lpx ws bx os) (lpy ws bY os) (lpt t0 cs) k (wK ws k)] := by rw [voyL, ldF_snoc, if_neg hl, hs]
        rw [h1, h2]; simp
      · rw [if_neg he] at hs
        rw [if_neg he]
        have h1 : voyC a ld bx bY ws (os ++ [k]) t0 = 6 := by rw [voyC, ldF_snoc, if_neg hl, hs]
        rw [h1]; rfl
/-- the state of the greedy voyage -/
structure GreedS (a ld bx bY t0 : Int) (ws : List WorkD) (os : List Int) (px py t l : Int) : Prop where
  ord : ordB ws.length os = true
  nodup : ∀ i j, (hi : i < os.length) → (hj : j < os.length) → os[i] = os[j] → i = j
  load : l = ldF ws os os.length
  full : l ≤ ld
  calls : ∃ cs, callsF a ws os bx bY t0 = some cs ∧ t = lpt t0 cs
  plx : px = lpx ws bx os
  ply : py = lpy ws bY os
theorem lpx_snoc (ws : List WorkD) (px : Int) (os : List Int) (k : Int) : lpx ws px (os ++ [k]) = (wK ws k).fAtX := by simp [lpx]
theorem lpy_snoc (ws : List WorkD) (py : Int) (os : List Int) (k : Int) : lpy ws py (os ++ [k]) = (wK ws k).fAtY := by simp [lpy]
theorem lpt_snoc (t : Int) (cs : List CallD) (c : CallD) : lpt t (cs ++ [c]) = c.fEnd := by simp [lpt]
theorem snoc_last (os : List Int) (k : Int) (h : os.length < (os ++ [k]).length) : (os ++ [k])[os.length] = k := by simp
theorem ordB_snoc {m : Nat} {os : List Int} {k : Int} (h : ordB m os = true) (h0 : 0 ≤ k) (h1 : k < m) (hn : hasB os k = false) : ordB m (os ++ [k]) = true := by
  unfold ordB
  refine allB_true fun i hi => ?_
  simp only [List.length_append, List.length_singleton] at hi
  by_cases e : i = os.length
  · subst e
    rw [ordS_get (by simp)]
    rw [snoc_last, List.take_left' rfl, hn, Bool.not_false, Bool.and_true]
    exact inB_of h0 (by omega)
  · have hi2 : i < os.length := by omega
    have := of_allB h i hi2
    rw [ordS_get hi2] at this
    rw [ordS_get (by simp; omega), List.getElem_append_left hi2, List.take_append_of_le_length (by omega)]
    exact this
theorem GreedS.start {a ld bx bY t0 : Int} {ws : List WorkD} (h : 0 ≤ ld) : GreedS a ld bx bY t0 ws [] bx bY t0 0 :=
  ⟨rfl, fun i j hi => by simp at hi, rfl, h, ⟨[], rfl, rfl⟩, rfl, rfl⟩
theorem GreedS.next {a ld bx bY t0 : Int} {ws : List WorkD} {os : List Int} {px py t l : Int} (h : GreedS a ld bx bY t0 ws os px py t l) {k e : Int} (h0 : 0 ≤ k) (h1 : k < ws.length) (hk : nextE a ld ws os px py t l k = some e) :
    GreedS a ld bx bY t0 ws (os ++ [k]) (wK ws k).fAtX (wK ws k).fAtY e (l + ldA ws k) := by
  obtain ⟨g1, g2, g3, g4, ⟨cs, g5, g6⟩, g7, g8⟩ := h
  unfold nextE at hk
  split at hk
  · cases hk
  · rename_i hn
    have hn' : hasB os k = false := by simpa using hn
    split at hk
    · cases hk
    · rename_i hl
      split at hk
      · rename_i he
        injection hk with hk
        refine ⟨ordB_snoc g1 h0 h1 hn', ?_, ?_, by omega, ?_, (lpx_snoc _ _ _ _).symm, (lpy_snoc _ _ _ _).symm⟩
        · intro i j hi hj e'
          simp only [List.length_append, List.length_singleton] at hi hj
          have hno : ∀ q, (hq : q < os.length) → os[q] ≠ k := fun q hq e2 => by
            have : hasB os k = true := hasB_iff.2 (e2 ▸ List.getElem_mem hq)
            rw [this] at hn'; cases hn'
          by_cases ei : i = os.length
          · by_cases ej : j = os.length
            · omega
            · subst ei
              rw [snoc_last, List.getElem_append_left (show j < os.length by omega)] at e'
              exact absurd e'.symm (hno j (by omega))
          · by_cases ej : j = os.length
            · subst ej
              rw [snoc_last, List.getElem_append_left (show i < os.length by omega)] at e'
              exact absurd e' (hno i (by omega))
            · rw [List.getElem_append_left (show i < os.length by omega), List.getElem_append_left (show j < os.length by omega)] at e'
              exact g2 i j (by omega) (by omega) e'
        · rw [ldF_snoc, g3]
        · refine ⟨cs ++ [mkC a (lpx ws bx os) (lpy ws bY os) (lpt t0 cs) k (wK ws k)], ?_, ?_⟩
          · rw [callsF_snoc, g5, Option.bind_some, addC, if_pos (by rw [← g6, ← g7, ← g8]; exact he)]
          · rw [lpt_snoc, ← g6, ← g7, ← g8, hk]
      · cases hk
theorem GreedS.eq {a ld bx bY t0 : Int} {ws : List WorkD} {os : List Int} {px py t l : Int} (h : GreedS a ld bx bY t0 ws os px py t l) (k : Int) : endK a ld bx bY ws t0 os k = nextE a ld ws os px py t l k := by
  obtain ⟨cs, g5, g6⟩ := h.calls
  rw [endK_next g5, ← h.plx, ← h.ply, ← g6, ← h.load]
end Go.Proofs.Ytmolcfagmiecjaa
