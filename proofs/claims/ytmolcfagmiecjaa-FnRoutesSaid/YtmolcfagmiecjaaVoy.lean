/- Voyages: the calls of an order, what a start allows; plain. -/
import Derived.Test.YtmolcfagmiecjaaOrder
import Derived.Test.YtmolcfagmiecjaaTravel
import Derived.Test.YtmolcfagmiecjaaTCall
namespace Go.Proofs.Ytmolcfagmiecjaa
open Go.RowKit Go.Sort
set_option maxRecDepth 100000

def nilW : WorkD := ⟨⟨#[]⟩, 0, 0, 0, 0, 0, 0⟩
def wK (ws : List WorkD) (k : Int) : WorkD := ws.getD k.toNat nilW
theorem wK_get {ws : List WorkD} {k : Int} (h : k.toNat < ws.length) : wK ws k = ws[k.toNat] := by simp [wK, List.getD, h]
def mkC (sp px py t k : Int) (d : WorkD) : CallD :=
  ⟨k, t + travelT sp px py d.fAtX d.fAtY, max (t + travelT sp px py d.fAtX d.fAtY) d.fFrom, max (t + travelT sp px py d.fAtX d.fAtY) d.fFrom + d.fMinutes⟩
def callsF (sp : Int) (ws : List WorkD) : List Int → Int → Int → Int → Option (List CallD)
  | [], _, _, _ => some []
  | k :: os, px, py, t =>
    if (mkC sp px py t k (wK ws k)).fEnd ≤ (wK ws k).fUntil then (callsF sp ws os (wK ws k).fAtX (wK ws k).fAtY (mkC sp px py t k (wK ws k)).fEnd).map (mkC sp px py t k (wK ws k) :: ·) else none
theorem callsF_nil (sp : Int) (ws : List WorkD) (px py t : Int) : callsF sp ws [] px py t = some [] := rfl
theorem callsF_late {sp : Int} {ws : List WorkD} {k : Int} {os : List Int} {px py t : Int} (h : ¬ (mkC sp px py t k (wK ws k)).fEnd ≤ (wK ws k).fUntil) : callsF sp ws (k :: os) px py t = none := by rw [callsF, if_neg h]
theorem callsF_ok {sp : Int} {ws : List WorkD} {k : Int} {os : List Int} {px py t : Int} (h : (mkC sp px py t k (wK ws k)).fEnd ≤ (wK ws k).fUntil) :
    callsF sp ws (k :: os) px py t = (callsF sp ws os (wK ws k).fAtX (wK ws k).fAtY (mkC sp px py t k (wK ws k)).fEnd).map (mkC sp px py t k (wK ws k) :: ·) := by rw [callsF, if_pos h]
/-- what is left of a voyage after some calls -/
def restC (sp : Int) (ws : List WorkD) (os : List Int) (px py t : Int) (cs : List CallD) : Option (List CallD) := (callsF sp ws os px py t).map (cs ++ ·)
theorem restC_start (sp : Int) (ws : List WorkD) (os : List Int) (px py t : Int) : restC sp ws os px py t [] = callsF sp ws os px py t := by
  unfold restC; cases callsF sp ws os px py t <;> simp
theorem restC_nil (sp : Int) (ws : List WorkD) (px py t : Int) (cs : List CallD) : restC sp ws [] px py t cs = some cs := by simp [restC, callsF]
theorem restC_late {sp : Int} {ws : List WorkD} {k : Int} {os : List Int} {px py t : Int} {cs : List CallD} (h : ¬ (mkC sp px py t k (wK ws k)).fEnd ≤ (wK ws k).fUntil) : restC sp ws (k :: os) px py t cs = none := by
  rw [restC, callsF_late h]; rfl
theorem restC_ok {sp : Int} {ws : List WorkD} {k : Int} {os : List Int} {px py t : Int} {cs : List CallD} (h : (mkC sp px py t k (wK ws k)).fEnd ≤ (wK ws k).fUntil) :
    restC sp ws (k :: os) px py t cs = restC sp ws os (wK ws k).fAtX (wK ws k).fAtY (mkC sp px py t k (wK ws k)).fEnd (cs ++ [mkC sp px py t k (wK ws k)]) := by
  rw [restC, callsF_ok h, restC]
  cases callsF sp ws os (wK ws k).fAtX (wK ws k).fAtY (mkC sp px py t k (wK ws k)).fEnd <;> simp
theorem wK_valid {ws : List WorkD} (h : worksB ws = true) {k : Int} (h0 : 0 ≤ k) (hk : k < ws.length) : workD (wK ws k) = true := by
  rw [wK_get (by omega)]; exact (works_all h).2 _ _
/-- the calls of an order, all told -/
def voyC (sp ld : Int) (bx bY : Int) (ws : List WorkD) (os : List Int) (t : Int) : Int := if ldF ws os os.length > ld then 5 else match callsF sp ws os bx bY t with | some _ => 0 | none => 6
def voyL (sp ld : Int) (bx bY : Int) (ws : List WorkD) (os : List Int) (t : Int) : List CallD := if ldF ws os os.length > ld then [] else match callsF sp ws os bx bY t with | some cs => cs | none => []
/-- the code of a voyage before its load and its times are looked at -/
def askC (s : ByteArray) (a b c : Int) (x y : Int) (ws : List WorkD) (os : List Int) (t : Int) : Int :=
  if shipB s a b c && (pointB x y && worksB ws) then (if inB t 0 4320 then (if ordB ws.length os then 0 else 7) else 2) else 1
def lastV (cs : List CallD) (sp bx bY : Int) (ws : List WorkD) (t : Int) : Int := match cs.getLast? with | none => t | some c => c.fEnd + travelT sp (wK ws c.fWork).fAtX (wK ws c.fWork).fAtY bx bY
theorem lastV_nil (sp bx bY : Int) (ws : List WorkD) (t : Int) : lastV [] sp bx bY ws t = t := rfl
theorem lastV_pos {cs : List CallD} (h : 0 < cs.length) (sp bx bY : Int) (ws : List WorkD) (t : Int) : lastV cs sp bx bY ws t = cs[cs.length - 1].fEnd + travelT sp (wK ws cs[cs.length - 1].fWork).fAtX (wK ws cs[cs.length - 1].fWork).fAtY bx bY := by
  simp [lastV, List.getLast?_eq_getElem?, List.getElem?_eq_getElem (show cs.length - 1 < cs.length by omega)]
theorem callsF_len {sp : Int} {ws : List WorkD} : ∀ {os : List Int} {px py t : Int} {cs : List CallD}, callsF sp ws os px py t = some cs → cs.length = os.length
  | [], _, _, _, cs, h => by simp [callsF] at h; subst h; rfl
  | k :: os, px, py, t, cs, h => by
    by_cases hl : (mkC sp px py t k (wK ws k)).fEnd ≤ (wK ws k).fUntil
    · rw [callsF_ok hl] at h
      cases hr : callsF sp ws os (wK ws k).fAtX (wK ws k).fAtY (mkC sp px py t k (wK ws k)).fEnd with
      | none => rw [hr] at h; simp at h
      | some ds => rw [hr] at h; simp at h; subst h; simp [callsF_len hr]
    · rw [callsF_late hl] at h; simp at h
/-- each call is one of the order's works, in time -/
theorem callsF_get {sp : Int} {ws : List WorkD} : ∀ {os : List Int} {px py t : Int} {cs : List CallD}, callsF sp ws os px py t = some cs → ∀ i, (h : i < cs.length) → (h' : i < os.length) → cs[i].fWork = os[i] ∧ cs[i].fEnd ≤ (wK ws os[i]).fUntil ∧ (wK ws os[i]).fFrom + (wK ws os[i]).fMinutes ≤ cs[i].fEnd
  | [], _, _, _, cs, h => by simp [callsF] at h; subst h; intro i hi; simp at hi
  | k :: os, px, py, t, cs, h => by
    by_cases hl : (mkC sp px py t k (wK ws k)).fEnd ≤ (wK ws k).fUntil
    · rw [callsF_ok hl] at h
      cases hr : callsF sp ws os (wK ws k).fAtX (wK ws k).fAtY (mkC sp px py t k (wK ws k)).fEnd with
      | none => rw [hr] at h; simp at h
      | some ds =>
        rw [hr] at h; simp at h; subst h
        intro i hi hi'
        cases i with
        | zero => exact ⟨rfl, hl, by simp only [mkC, List.getElem_cons_zero]; omega⟩
        | succ i => exact callsF_get hr i (by simpa using hi) (by simpa using hi')
    · rw [callsF_late hl] at h; simp at h
theorem mkC_mono {sp px py t t' k : Int} {d : WorkD} (h : t ≤ t') : (mkC sp px py t k d).fEnd ≤ (mkC sp px py t' k d).fEnd := by simp only [mkC]; omega
theorem callsF_mono {sp : Int} {ws : List WorkD} : ∀ {os : List Int} {px py t t' : Int}, t ≤ t' → (callsF sp ws os px py t').isSome = true → (callsF sp ws os px py t).isSome = true
  | [], _, _, _, _, _, _ => rfl
  | k :: os, px, py, t, t', ht, h => by
    have hm := mkC_mono (sp := sp) (px := px) (py := py) (k := k) (d := wK ws k) ht
    by_cases hl : (mkC sp px py t' k (wK ws k)).fEnd ≤ (wK ws k).fUntil
    · rw [callsF_ok hl] at h
      rw [callsF_ok (by omega)]
      simp only [Option.isSome_map] at h ⊢
      exact callsF_mono hm h
    · rw [callsF_late hl] at h; simp at h
def lpx (ws : List WorkD) (px : Int) (os : List Int) : Int := match os.getLast? with | none => px | some j => (wK ws j).fAtX
def lpy (ws : List WorkD) (py : Int) (os : List Int) : Int := match os.getLast? with | none => py | some j => (wK ws j).fAtY
def lpt (t : Int) (cs : List CallD) : Int := match cs.getLast? with | none => t | some c => c.fEnd
/-- one work more at the end -/
def addC (sp : Int) (ws : List WorkD) (k px py t : Int) (cs : List CallD) : Option (List CallD) := if (mkC sp px py t k (wK ws k)).fEnd ≤ (wK ws k).fUntil then some (cs ++ [mkC sp px py t k (wK ws k)]) else none
theorem addC_cons (sp : Int) (ws : List WorkD) (k px py t : Int) (c : CallD) (cs : List CallD) : addC sp ws k px py t (c :: cs) = (addC sp ws k px py t cs).map (c :: ·) := by
  unfold addC; split <;> simp
theorem lpt_cons (t : Int) (c : CallD) (cs : List CallD) : lpt t (c :: cs) = lpt c.fEnd cs := by
  cases cs with
  | nil => rfl
  | cons d ds => cases h : (d :: ds).getLast? with
    | none => simp at h
    | some x => simp only [lpt, List.getLast?_cons_cons, h]
theorem lpx_cons (ws : List WorkD) (px : Int) (j : Int) (os : List Int) : lpx ws px (j :: os) = lpx ws (wK ws j).fAtX os := by
  cases os with
  | nil => rfl
  | cons d ds => cases h : (d :: ds).getLast? with
    | none => simp at h
    | some x => simp only [lpx, List.getLast?_cons_cons, h]
theorem lpy_cons (ws : List WorkD) (py : Int) (j : Int) (os : List Int) : lpy ws py (j :: os) = lpy ws (wK ws j).fAtY os := by
  cases os with
  | nil => rfl
  | cons d ds => cases h : (d :: ds).getLast? with
    | none => simp at h
    | some x => simp only [lpy, List.getLast?_cons_cons, h]
theorem callsF_snoc {sp : Int} {ws : List WorkD} : ∀ {os : List Int} {k px py t : Int},
    callsF sp ws (os ++ [k]) px py t = (callsF sp ws os px py t).bind fun cs => addC sp ws k (lpx ws px os) (lpy ws py os) (lpt t cs) cs
  | [], k, px, py, t => by
    simp only [List.nil_append, callsF, Option.bind_some, addC, lpx, lpy, lpt, List.getLast?_nil, Option.map_some]; rfl
  | j :: os, k, px, py, t => by
    rw [List.cons_append]
    by_cases hl : (mkC sp px py t j (wK ws j)).fEnd ≤ (wK ws j).fUntil
    · rw [callsF_ok hl, callsF_ok hl, callsF_snoc, lpx_cons, lpy_cons]
      cases hr : callsF sp ws os (wK ws j).fAtX (wK ws j).fAtY (mkC sp px py t j (wK ws j)).fEnd with
      | none => rfl
      | some cs => simp only [Option.bind_some, Option.map_some, lpt_cons, addC_cons]
    · rw [callsF_late hl, callsF_late hl]; rfl
/-! ### the latest start -/
def okS (sp bx bY : Int) (ws : List WorkD) (os : List Int) (t : Int) : Bool := (callsF sp ws os bx bY t).isSome
theorem okS_mono {sp bx bY : Int} {ws : List WorkD} {os : List Int} {t t' : Int} (h : t ≤ t') (h2 : okS sp bx bY ws os t' = true) : okS sp bx bY ws os t = true := callsF_mono h h2
/-- the greatest number up to n that is fine, or -1 -/
def downF (ok : Int → Bool) : Nat → Int
  | 0 => if ok 0 then 0 else -1
  | n + 1 => if ok ((n : Int) + 1) then (n : Int) + 1 else downF ok n
theorem downF_none {ok : Int → Bool} : ∀ n : Nat, (∀ t : Int, 0 ≤ t → t ≤ n → ok t = false) → downF ok n = -1
  | 0, h => by rw [downF, h 0 (by omega) (by omega)]; rfl
  | n + 1, h => by rw [downF, h _ (by omega) (by omega), downF_none n fun t h0 h1 => h t h0 (by omega)]; rfl
theorem downF_at {ok : Int → Bool} : ∀ (n : Nat) (m : Int), 0 ≤ m → m ≤ n → ok m = true → (∀ t : Int, m < t → t ≤ n → ok t = false) → downF ok n = m
  | 0, m, h0, h1, h2, _ => by rw [downF, show (0 : Int) = m by omega, h2]; rfl
  | n + 1, m, h0, h1, h2, h3 => by
    rw [downF]
    by_cases e : m = (n : Int) + 1
    · subst e; rw [h2]; rfl
    · rw [h3 _ (by omega) (by omega), downF_at n m h0 (by omega) h2 fun t ht ht' => h3 t ht (by omega)]; rfl
theorem downF_bd {ok : Int → Bool} : ∀ n : Nat, -1 ≤ downF ok n ∧ downF ok n ≤ n
  | 0 => by rw [downF]; split <;> omega
  | n + 1 => by have := downF_bd (ok := ok) n; rw [downF]; split <;> omega
/-- its value and its code -/
def lateV (s : ByteArray) (a b c x y : Int) (ws : List WorkD) (os : List Int) : Int := if askC s a b c x y ws os 0 = 0 ∧ ldF ws os os.length ≤ b ∧ 0 ≤ downF (okS a x y ws os) 4320 then downF (okS a x y ws os) 4320 else 0
def lateC (s : ByteArray) (a b c x y : Int) (ws : List WorkD) (os : List Int) : Int := if askC s a b c x y ws os 0 = 0 then (if ldF ws os os.length ≤ b then (if 0 ≤ downF (okS a x y ws os) 4320 then 0 else 6) else 5) else askC s a b c x y ws os 0
/-! ### the voyage's code, its calls, its end -/
def voC (s : ByteArray) (a b c x y : Int) (ws : List WorkD) (os : List Int) (t : Int) : Int := if askC s a b c x y ws os t = 0 then voyC a b x y ws os t else askC s a b c x y ws os t
def voL (s : ByteArray) (a b c x y : Int) (ws : List WorkD) (os : List Int) (t : Int) : List CallD := if askC s a b c x y ws os t = 0 then voyL a b x y ws os t else []
def veV (s : ByteArray) (a b c x y : Int) (ws : List WorkD) (os : List Int) (t : Int) : Int := if voC s a b c x y ws os t = 0 then lastV (voyL a b x y ws os t) a x y ws t else 0
/-! ### the work that ends first, and so on -/
def endK (sp ld bx bY : Int) (ws : List WorkD) (t : Int) (os : List Int) (k : Int) : Option Int :=
  if hasB os k then none else if voyC sp ld bx bY ws (os ++ [k]) t = 0 then (match (voyL sp ld bx bY ws (os ++ [k]) t).getLast? with | some c => some c.fEnd | none => none) else none
def bestK (f : Int → Option Int) : Nat → Int × Int
  | 0 => (-1, 0)
  | n + 1 => match f n with
    | none => bestK f n
    | some e => if (bestK f n).1 < 0 ∨ e < (bestK f n).2 then ((n : Int), e) else bestK f n
def greedF (sp ld bx bY : Int) (ws : List WorkD) (t : Int) : Nat → List Int → List Int
  | 0, os => os
  | n + 1, os => if (bestK (endK sp ld bx bY ws t os) ws.length).1 < 0 then os else greedF sp ld bx bY ws t n (os ++ [(bestK (endK sp ld bx bY ws t os) ws.length).1])
theorem bestK_some {f : Int → Option Int} : ∀ n : Nat, 0 ≤ (bestK f n).1 → (bestK f n).1 < n ∧ f (bestK f n).1 = some (bestK f n).2
  | 0, h => by simp [bestK] at h
  | n + 1, h => by
    rw [bestK] at h ⊢
    cases hf : f n with
    | none => rw [hf] at h; simp only at h ⊢; have := bestK_some n h; exact ⟨by omega, this.2⟩
    | some e =>
      rw [hf] at h
      simp only at h ⊢
      split
      · exact ⟨by simp only; omega, hf⟩
      · rename_i hn
        rw [if_neg hn] at h
        have := bestK_some n h; exact ⟨by omega, this.2⟩
end Go.Proofs.Ytmolcfagmiecjaa
