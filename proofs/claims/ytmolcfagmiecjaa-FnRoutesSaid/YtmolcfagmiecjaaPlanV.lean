/- What the greedy voyage is good for, and how the calls of a voyage follow one another; plain. -/
import Derived.Test.YtmolcfagmiecjaaSeek
import Derived.Test.YtmolcfagmiecjaaCall
namespace Go.Proofs.Ytmolcfagmiecjaa
open Go.RowKit Go.Sort
set_option maxRecDepth 100000

theorem greedF_fine {a ld bx bY t : Int} {ws : List WorkD} : ∀ (n : Nat) (os : List Int), FineO a ld bx bY t ws os → FineO a ld bx bY t ws (greedF a ld bx bY ws t n os)
  | 0, _, h => h
  | n + 1, os, h => by
    rw [greedF]
    split
    · exact h
    · rename_i hn
      have hb := bestK_some (f := endK a ld bx bY ws t os) ws.length (by omega)
      obtain ⟨k, hk⟩ : ∃ k : Nat, (bestK (endK a ld bx bY ws t os) ws.length).1 = (k : Int) := ⟨(bestK (endK a ld bx bY ws t os) ws.length).1.toNat, by omega⟩
      rw [hk] at hb ⊢
      exact greedF_fine n _ (h.next (by omega) (by rw [mayB, hb.2]; rfl))
theorem fine_nil {a ld bx bY t : Int} {ws : List WorkD} (h : 0 ≤ ld) : FineO a ld bx bY t ws [] := ⟨_, _, _, _, GreedS.start h⟩
theorem grL_fine {s : ByteArray} {a b c x y : Int} {ws : List WorkD} {t : Int} (hb : 0 ≤ b) (h : askN s a b c x y ws t = 0) : FineO a b x y t ws (grL s a b c x y ws t) := by
  rw [grL, if_pos h]; exact greedF_fine _ _ (fine_nil hb)
/-- what a fine order has -/
theorem FineO.out {a ld bx bY t : Int} {ws : List WorkD} {os : List Int} (h : FineO a ld bx bY t ws os) : ordB ws.length os = true ∧ ldF ws os os.length ≤ ld ∧ ∃ cs, callsF a ws os bx bY t = some cs := by
  obtain ⟨px, py, n, l, g⟩ := h
  obtain ⟨cs, h1, -⟩ := g.calls
  exact ⟨g.ord, by rw [← g.load]; exact g.full, cs, h1⟩
/-! ### one call after the other -/
theorem take_succ_cons {α : Type} (x : α) (xs : List α) (n : Nat) : (x :: xs).take (n + 1) = x :: xs.take n := rfl
theorem calls_at {sp : Int} {ws : List WorkD} : ∀ {os : List Int} {px py t : Int} {cs : List CallD}, callsF sp ws os px py t = some cs → ∀ i, (h1 : i < cs.length) → (h2 : i < os.length) →
    cs[i] = mkC sp (lpx ws px (os.take i)) (lpy ws py (os.take i)) (lpt t (cs.take i)) os[i] (wK ws os[i])
  | [], _, _, _, cs, h => fun i h1 h2 => by simp at h2
  | k :: os, px, py, t, cs, h => by
    by_cases hl : (mkC sp px py t k (wK ws k)).fEnd ≤ (wK ws k).fUntil
    · rw [callsF_ok hl] at h
      cases hr : callsF sp ws os (wK ws k).fAtX (wK ws k).fAtY (mkC sp px py t k (wK ws k)).fEnd with
      | none => rw [hr] at h; simp at h
      | some ds =>
        rw [hr] at h; simp at h; subst h
        intro i hi hi'
        cases i with
        | zero => rfl
        | succ i =>
          have := calls_at hr i (by simpa using hi) (by simpa using hi')
          simp only [take_succ_cons, lpx_cons, lpy_cons, lpt_cons, List.getElem_cons_succ]
          exact this
    · rw [callsF_late hl] at h; simp at h
theorem take_snoc' {α : Type} (xs : List α) (i : Nat) (h : i < xs.length) : xs.take (i + 1) = xs.take i ++ [xs[i]] := by simp
theorem lpx_step (ws : List WorkD) (px : Int) (os : List Int) (i : Nat) (h : i < os.length) : lpx ws px (os.take (i + 1)) = (wK ws os[i]).fAtX := by rw [take_snoc' os i h, lpx_snoc]
theorem lpy_step (ws : List WorkD) (py : Int) (os : List Int) (i : Nat) (h : i < os.length) : lpy ws py (os.take (i + 1)) = (wK ws os[i]).fAtY := by rw [take_snoc' os i h, lpy_snoc]
theorem lpt_step (t : Int) (cs : List CallD) (i : Nat) (h : i < cs.length) : lpt t (cs.take (i + 1)) = cs[i].fEnd := by rw [take_snoc' cs i h, lpt_snoc]
/-- the waits of the first calls -/
def wtS (cs : List CallD) : Nat → Int
  | 0 => 0
  | n + 1 => wtS cs n + (match cs[n]? with | some c => c.fBegin - c.fArrive | none => 0)
theorem wtS_succ {cs : List CallD} {n : Nat} (h : n < cs.length) : wtS cs (n + 1) = wtS cs n + (cs[n].fBegin - cs[n].fArrive) := by simp [wtS, h]
def CallOk (c : CallD) : Prop := 0 ≤ c.fArrive ∧ c.fArrive ≤ c.fBegin ∧ c.fBegin ≤ 4320
theorem waitOne_ok {c : CallD} (h : CallOk c) : waitOne c = c.fBegin - c.fArrive := by
  obtain ⟨h1, h2, h3⟩ := h
  unfold waitOne; rw [inB_of h1 (by omega), inB_of h2 (by omega)]; rfl
theorem waitS_app (xs : List CallD) (c : CallD) : waitS (xs ++ [c]) = waitS xs + waitOne c := by
  induction xs with
  | nil => simp [waitS]
  | cons x xs ih => simp only [List.cons_append, waitS, ih]; omega
theorem wtS_take {cs : List CallD} (h : ∀ i, (hi : i < cs.length) → CallOk cs[i]) : ∀ n, n ≤ cs.length → wtS cs n = waitS (cs.take n)
  | 0, _ => by simp [wtS, waitS]
  | n + 1, hn => by
    have hlt : n < cs.length := by omega
    rw [wtS_succ hlt, wtS_take h n (by omega), take_snoc' cs n hlt, waitS_app, waitOne_ok (h n hlt)]
theorem wtS_all {cs : List CallD} (h : ∀ i, (hi : i < cs.length) → CallOk cs[i]) : wtS cs cs.length = waitS cs := by rw [wtS_take h _ (Nat.le_refl _), List.take_length]
theorem wtS_bd {cs : List CallD} (h : ∀ i, (hi : i < cs.length) → CallOk cs[i]) : ∀ n, n ≤ cs.length → 0 ≤ wtS cs n ∧ wtS cs n ≤ 4320 * n
  | 0, _ => by simp [wtS]
  | n + 1, hn => by
    have hlt : n < cs.length := by omega
    have h1 := wtS_bd h n (by omega)
    obtain ⟨a1, a2, a3⟩ := h n hlt
    rw [wtS_succ hlt]; omega
theorem lpt_bd {sp : Int} {ws : List WorkD} {os : List Int} {px py t : Int} {cs : List CallD} (hw : worksB ws = true) (ho : ordB ws.length os = true) (h : callsF sp ws os px py t = some cs) (ht : 0 ≤ t) (ht2 : t ≤ 4320) : ∀ i, i ≤ cs.length → 0 ≤ lpt t (cs.take i) ∧ lpt t (cs.take i) ≤ 4320
  | 0, _ => by simp [lpt]; omega
  | i + 1, hi => by
    have hl := callsF_len h
    have hlt : i < cs.length := by omega
    rw [lpt_step t cs i hlt]
    obtain ⟨g1, g2, g3⟩ := callsF_get h i hlt (by omega)
    obtain ⟨o1, o2⟩ := ordB_true ho i (by omega)
    have := workD_true (wK_valid hw o1 o2)
    omega
theorem lp_point {ws : List WorkD} {os : List Int} {px py : Int} (hw : worksB ws = true) (ho : ordB ws.length os = true) (hp : pointB px py = true) : ∀ i, i ≤ os.length → pointB (lpx ws px (os.take i)) (lpy ws py (os.take i)) = true
  | 0, _ => by simpa [lpx, lpy] using hp
  | i + 1, hi => by
    have hlt : i < os.length := by omega
    rw [lpx_step ws px os i hlt, lpy_step ws py os i hlt]
    obtain ⟨o1, o2⟩ := ordB_true ho i hlt
    exact (workD_true (wK_valid hw o1 o2)).1
theorem calls_ok {sp : Int} {ws : List WorkD} {os : List Int} {px py t : Int} {cs : List CallD} (h1 : 1 ≤ sp) (h2 : sp ≤ 2000) (hw : worksB ws = true) (ho : ordB ws.length os = true) (hp : pointB px py = true) (h : callsF sp ws os px py t = some cs) (ht : 0 ≤ t) (ht2 : t ≤ 4320) : ∀ i, (hi : i < cs.length) → CallOk cs[i] := fun i hi => by
  have hl := callsF_len h
  have hi2 : i < os.length := by omega
  obtain ⟨o1, o2⟩ := ordB_true ho i hi2
  have wd := workD_true (wK_valid hw o1 o2)
  have ha := calls_at h i hi hi2
  have hb := lpt_bd hw ho h ht ht2 i (by omega)
  have hq := lp_point hw ho hp i (by omega : i ≤ os.length)
  have tr := travelT_bd h1 h2 hq wd.1
  obtain ⟨g1, g2, g3⟩ := callsF_get h i hi hi2
  have e1 : cs[i].fArrive = lpt t (cs.take i) + travelT sp (lpx ws px (os.take i)) (lpy ws py (os.take i)) (wK ws os[i]).fAtX (wK ws os[i]).fAtY := by rw [ha]; rfl
  have e2 : cs[i].fBegin = max cs[i].fArrive (wK ws os[i]).fFrom := by rw [ha]; rfl
  have e3 : cs[i].fEnd = cs[i].fBegin + (wK ws os[i]).fMinutes := by rw [ha]; rfl
  exact ⟨by omega, by omega, by omega⟩
/-! ### home again -/
theorem rootW_zero (k : Nat) : ∀ high : Int, 0 ≤ high → high ≤ k → rootW 0 0 high = 0 := by
  induction k with
  | zero => intro h h0 h1; rw [rootW_end (by omega)]
  | succ k ih =>
    intro h h0 h1
    by_cases hl : 0 < h
    · have hm : 1 ≤ (0 + h + 1) / 2 := by omega
      have h2 : ¬ ((0 + h + 1) / 2) * ((0 + h + 1) / 2) ≤ 0 := by
        have := Int.mul_le_mul hm hm (by omega) (by omega)
        omega
      rw [rootW_down hl h2]
      exact ih _ (by omega) (by omega)
    · rw [rootW_end (by omega)]
theorem travelT_self {sp x y : Int} (h : 1 ≤ sp) : travelT sp x y x y = 0 := by
  have h0 : sqD x y x y = 0 := by simp [sqD]
  have h1 : rootW 0 0 3037000499 = 0 := rootW_zero 3037000499 _ (by omega) (by omega)
  rw [travelT, distD, rootZ, h0, h1]
  exact Int.ediv_eq_zero_of_lt (by omega) (by omega)
theorem lastV_home {sp : Int} {ws : List WorkD} {os : List Int} {bx bY t : Int} {cs : List CallD} (h1 : 1 ≤ sp) (h : callsF sp ws os bx bY t = some cs) : lastV cs sp bx bY ws t = lpt t cs + travelT sp (lpx ws bx os) (lpy ws bY os) bx bY := by
  have hl := callsF_len h
  rcases Nat.eq_zero_or_pos os.length with h0 | h0
  · obtain rfl : os = [] := List.eq_nil_of_length_eq_zero h0
    obtain rfl : cs = [] := List.eq_nil_of_length_eq_zero (by omega)
    simp only [lastV_nil, lpt, lpx, lpy, List.getLast?_nil, travelT_self h1]; omega
  · obtain ⟨g1, -, -⟩ := callsF_get h (cs.length - 1) (by omega) (by omega)
    rw [lastV_pos (by omega)]
    have e1 : lpt t cs = cs[cs.length - 1].fEnd := by
      have := lpt_step t cs (cs.length - 1) (by omega)
      rw [show cs.length - 1 + 1 = cs.length by omega, List.take_length] at this; exact this
    have hi : cs.length - 1 < os.length := by omega
    have e2 := lpx_step ws bx os (cs.length - 1) hi
    have e3 := lpy_step ws bY os (cs.length - 1) hi
    rw [show cs.length - 1 + 1 = os.length by omega, List.take_length] at e2 e3
    rw [e1, e2, e3, g1]
/-! ### all that the law asks of the codes -/
theorem downF_ok {ok : Int → Bool} : ∀ n : Nat, 0 ≤ downF ok n → ok (downF ok n) = true
  | 0, h => by rw [downF] at h ⊢; split at h <;> simp_all
  | n + 1, h => by
    rw [downF] at h ⊢
    by_cases e : ok ((n : Int) + 1) = true
    · rw [if_pos e]; exact e
    · rw [if_neg e] at h ⊢; exact downF_ok n h
theorem downF_ge {ok : Int → Bool} (h : ok 0 = true) : ∀ n : Nat, 0 ≤ downF ok n
  | 0 => by rw [downF, if_pos h]; omega
  | n + 1 => by rw [downF]; split; omega; exact downF_ge h n
theorem downF_top {ok : Int → Bool} : ∀ (n : Nat) (t : Int), downF ok n < t → t ≤ n → 0 ≤ t → ok t = false
  | 0, t, h, h1, h2 => by
    have e : t = 0 := by omega
    subst e
    rw [downF] at h
    by_cases e : ok 0 = true
    · rw [if_pos e] at h; omega
    · simpa using e
  | n + 1, t, h, h1, h2 => by
    rw [downF] at h
    by_cases e : ok ((n : Int) + 1) = true
    · rw [if_pos e] at h; omega
    · rw [if_neg e] at h
      by_cases e2 : t = (n : Int) + 1
      · subst e2; simpa using e
      · exact downF_top n t h (by omega) h2
theorem askC_mk {s : ByteArray} {a b c x y : Int} {ws : List WorkD} {os : List Int} {t : Int} (hs : shipB s a b c = true) (hp : pointB x y = true) (hw : worksB ws = true) (ht : 0 ≤ t) (ht2 : t ≤ 4320) (ho : ordB ws.length os = true) : askC s a b c x y ws os t = 0 := by
  have := inB_of ht ht2
  simp [askC, *]
theorem voC_t {s : ByteArray} {a b c x y : Int} {ws : List WorkD} {os : List Int} {t : Int} (h : askC s a b c x y ws os t = 0) (hl : ldF ws os os.length ≤ b) : voC s a b c x y ws os t = if okS a x y ws os t then 0 else 6 := by
  rw [voC, if_pos h, voyC_late hl]
structure PlanV (s : ByteArray) (a b c x y : Int) (ws : List WorkD) (os : List Int) (cs : List CallD) : Prop where
  a1 : 1 ≤ a
  a2 : a ≤ 2000
  ord : ordB ws.length os = true
  full : ldF ws os os.length ≤ b
  len : os.length ≤ ws.length
  calls : callsF a ws os x y 0 = some cs
  voc : voC s a b c x y ws os 0 = 0
  vol : voL s a b c x y ws os 0 = cs
  vev : veV s a b c x y ws os 0 = lpt 0 cs + travelT a (lpx ws x os) (lpy ws y os) x y
  lov : loV ws os = ldF ws os os.length
  orc : orC ws os = 0
  latc : lateC s a b c x y ws os = 0
  lat0 : 0 ≤ lateV s a b c x y ws os
  lat1 : lateV s a b c x y ws os ≤ 4320
  last : voC s a b c x y ws os (lateV s a b c x y ws os) = 0
  past : lateV s a b c x y ws os < 4320 → voC s a b c x y ws os (lateV s a b c x y ws os + 1) = 6
theorem plan_ok {s : ByteArray} {a b c x y : Int} {ws : List WorkD} {os : List Int} (hs : shipB s a b c = true) (hp : pointB x y = true) (hw : worksB ws = true) (hf : FineO a b x y 0 ws os) : ∃ cs, PlanV s a b c x y ws os cs := by
  obtain ⟨ho, hl, cs, hc⟩ := hf.out
  have sh := shipB_true hs
  have ha : askC s a b c x y ws os 0 = 0 := askC_mk hs hp hw (by omega) (by omega) ho
  have hok : okS a x y ws os 0 = true := by rw [okS, hc]; rfl
  have hv0 : voC s a b c x y ws os 0 = 0 := by rw [voC_t ha hl, hok]; rfl
  have hvl : voyL a b x y ws os 0 = cs := by rw [voyL, if_neg (by omega), hc]
  have hd0 := downF_ge hok 4320
  have hd1 := (downF_bd (ok := okS a x y ws os) 4320).2
  obtain ⟨e1, e2⟩ := late_ok ha hl rfl hd0
  have hdo := downF_ok 4320 hd0
  refine ⟨cs, by omega, by omega, ho, hl, hf.len, hc, hv0, by rw [voL, if_pos ha, hvl], ?_, by simp [loV, hw, ho], by simp [orC, hw, ho], e2, by rw [e1]; exact hd0, by rw [e1]; exact hd1, ?_, fun hlt => ?_⟩
  · rw [veV, if_pos hv0, hvl, lastV_home (by omega) hc]
  · rw [e1, voC_t (askC_mk hs hp hw hd0 hd1 ho) hl, hdo]; rfl
  · rw [e1] at hlt ⊢
    have := downF_top (ok := okS a x y ws os) 4320 (downF (okS a x y ws os) 4320 + 1) (by omega) (by omega) (by omega)
    rw [voC_t (askC_mk hs hp hw (by omega) (by omega) ho) hl, this]; rfl
/-- one call of the voyage, all told -/
structure CallJ (a x y : Int) (ws : List WorkD) (os : List Int) (cs : List CallD) (j k : Nat) (N T px py : Int) (d : WorkD) (B : Int) : Prop where
  hk : k < ws.length
  hd : ws[k] = d
  ho : ∀ h : j < os.length, os[j] = (k : Int)
  hc : ∀ h : j < cs.length, cs[j] = ⟨k, N + T, B, B + d.fMinutes⟩
  hN : N = lpt 0 (cs.take j)
  hx : px = lpx ws x (os.take j)
  hy : py = lpy ws y (os.take j)
  hT : T = travelT a px py d.fAtX d.fAtY
  hp : pointB px py = true
  hq : pointB d.fAtX d.fAtY = true
  hB : (B = N + T ∧ d.fFrom ≤ N + T) ∨ (B = d.fFrom ∧ N + T < d.fFrom)
  hU : B + d.fMinutes ≤ d.fUntil
  bd : 0 ≤ N ∧ N ≤ 4320 ∧ 0 ≤ T ∧ T ≤ 3037002499 ∧ 0 ≤ d.fFrom ∧ d.fFrom ≤ 4320 ∧ 1 ≤ d.fMinutes ∧ d.fMinutes ≤ 600 ∧ d.fUntil ≤ 4320 ∧ N + T ≤ B
  nextN : lpt 0 (cs.take (j + 1)) = B + d.fMinutes
  nextX : lpx ws x (os.take (j + 1)) = d.fAtX
  nextY : lpy ws y (os.take (j + 1)) = d.fAtY
  nextW : wtS cs (j + 1) = wtS cs j + (B - (N + T))
theorem call_j {s : ByteArray} {a b c x y : Int} {ws : List WorkD} {os : List Int} {cs : List CallD} (P : PlanV s a b c x y ws os cs) (hw : worksB ws = true) (hp : pointB x y = true) {j : Nat} (hj : j < cs.length) : ∃ k N T px py d B, CallJ a x y ws os cs j k N T px py d B := by
  have hl := callsF_len P.calls
  have hjo : j < os.length := by omega
  obtain ⟨o1, o2⟩ := ordB_true P.ord j hjo
  obtain ⟨k, hk⟩ : ∃ k : Nat, os[j] = (k : Int) := ⟨os[j].toNat, by omega⟩
  have hkl : k < ws.length := by omega
  have hd : wK ws os[j] = ws[k] := by rw [hk, wK_get (by simpa using hkl)]; simp
  have wd := workD_true (wK_valid hw o1 o2)
  have ha := calls_at P.calls j hj hjo
  have hb := lpt_bd hw P.ord P.calls (by omega) (by omega) j (by omega)
  have hq := lp_point hw P.ord hp j (by omega : j ≤ os.length)
  obtain ⟨g1, g2, g3⟩ := callsF_get P.calls j hj hjo
  have tr := travelT_bd P.a1 P.a2 hq wd.1
  have e3 : cs[j].fEnd = (mkC a (lpx ws x (os.take j)) (lpy ws y (os.take j)) (lpt 0 (cs.take j)) os[j] (wK ws os[j])).fEnd := by rw [← ha]
  rw [hd] at ha wd g2 g3 tr e3
  obtain ⟨B, hB⟩ : ∃ B, B = max (lpt 0 (cs.take j) + travelT a (lpx ws x (os.take j)) (lpy ws y (os.take j)) ws[k].fAtX ws[k].fAtY) ws[k].fFrom := ⟨_, rfl⟩
  have e4 : cs[j].fEnd = B + ws[k].fMinutes := by rw [e3, hB]; rfl
  refine ⟨k, _, _, _, _, ws[k], B, hkl, rfl, fun _ => hk, fun _ => by rw [ha, hk, hB]; rfl, rfl, rfl, rfl, rfl, hq, wd.1, by omega, by omega, by omega, ?_, ?_, ?_, ?_⟩
  · rw [lpt_step 0 cs j hj, e4]
  · rw [lpx_step ws x os j hjo, hd]
  · rw [lpy_step ws y os j hjo, hd]
  · rw [wtS_succ hj]
    have e5 : cs[j].fBegin = B ∧ cs[j].fArrive = lpt 0 (cs.take j) + travelT a (lpx ws x (os.take j)) (lpy ws y (os.take j)) ws[k].fAtX ws[k].fAtY := by rw [ha, hB]; exact ⟨rfl, rfl⟩
    rw [e5.1, e5.2]
end Go.Proofs.Ytmolcfagmiecjaa
