/- The archive's bytes read, the program's side: the functions that take the items; LoadItems, SalvageItems, DamagedItems. -/
import Derived.Test.YtabbhlehbhadiaaDoorArcI
import Derived.Test.YtabbhlehbhadiaaDoorPush
import Derived.Test.YtabbhlehbhadiaaDoorMarkI
namespace Go.Proofs.YtabbhlehbhadiaaDoor
open Go.RowKit Go.Sort
set_option linter.unusedVariables false
set_option maxRecDepth 100000

theorem one_encIt (y : ItemD) : ∀ u ∈ encItem y, u.oneCell' = true := by intro u hu; simp only [encItem, List.mem_cons, List.not_mem_nil, or_false] at hu; rcases hu with rfl | rfl <;> rfl
theorem info_Itm : (Tryd.prog.info? 34).map (fun i => (i.zero, i.size, i.bytes)) = some (some (.agg #[.string ⟨#[]⟩, .string ⟨#[]⟩]), 2, 32) := by kernel_rfl
theorem enter_of' {P : Program} {f : FuncId} {fn : Func} (hf : P.funcs[f]? = some fn) (hname : (fn.name == "runtime.NumGoroutine") = false) (hb : fn.body.isSome = true) (args : Array Value) (w : World) : (callFunc f args).run P w = .ok (.enter f args) w := by
  have h1 : fn.name ≠ "runtime.NumGoroutine" := by simpa using hname
  obtain ⟨c, hc⟩ := Option.isSome_iff_exists.1 hb
  simp [callFunc, hf, h1, hc]
/-- a variable that holds a list of the call's own -/
structure ListS {α : Type} (T e : TypeId) (n : Nat) (enc : α → List Value) (w0 : World) (bo : Nat) (k : Nat) (w : World) (xs : List α) : Prop where
  v : ∃ v, Bk w bo T [v] ∧ Acc w0 w0.heap.size e n enc w v xs ∧ v.ownBlock ≠ some bo
  low : w0.heap.size ≤ bo
  len : xs.length ≤ k
section
variable {α : Type} {T e : TypeId} {n : Nat} {enc : α → List Value} {w0 : World} {bo k : Nat} {w w' : World} {xs : List α}
theorem ListS.stay (h : ListS T e n enc w0 bo k w xs) (hb : Below w.heap.size w w') : ListS T e n enc w0 bo k w' xs := by
  obtain ⟨⟨v, h1, h2, h3⟩, h4, h5⟩ := h
  exact ⟨⟨v, h1.below hb, h2.below hb, h3⟩, h4, h5⟩
theorem ListS.old (h : ListS T e n enc w0 bo k w xs) : Below w0.heap.size w0 w := by
  obtain ⟨⟨v, h1, h2, h3⟩, h4, h5⟩ := h
  exact h2.keep
theorem acc_own (hn : ∀ x, (enc x).length = n) {g0 : Nat} {v : Value} (h : Acc w0 g0 e n enc w v xs) : ∀ b, v.ownBlock = some b → b < w.heap.size := fun b hb => ((h.slo hn).2 b hb).1
end
/-- what a function that takes items leaves: the list xs', of the older blocks only the variable's and the list's have turned -/
def TookP {α : Type} (T e : TypeId) (n : Nat) (enc : α → List Value) (w0 : World) (bo : Nat) (v : Value) (w1 : World) (code : Int) (xs' : List α) (en : Ending) (w' : World) : Prop :=
  en = .returned (.int .i64 code) ∧ (∃ v', Bk w' bo T [v'] ∧ Acc w0 w0.heap.size e n enc w' v' xs' ∧ v'.ownBlock ≠ some bo) ∧ w1.heap.size ≤ w'.heap.size ∧ ∀ X, X < w1.heap.size → X ≠ bo → v.ownBlock ≠ some X → w'.heap[X]? = w1.heap[X]?
theorem tookP_same {α : Type} {T e : TypeId} {n : Nat} {enc : α → List Value} {w0 : World} {bo : Nat} {v : Value} {w1 w' : World} {xs : List α} {c code : Int} (h1 : Bk w1 bo T [v]) (h2 : Acc w0 w0.heap.size e n enc w1 v xs) (h3 : v.ownBlock ≠ some bo) (hb : Below w1.heap.size w1 w') (hc : c = code) :
    TookP T e n enc w0 bo v w1 code xs (.returned (.int .i64 c)) w' := by
  subst hc; exact ⟨rfl, ⟨v, h1.below hb, h2.below hb, h3⟩, hb.size, fun X hX _ _ => hb.block X hX⟩
/-- one element pushed, the variable written -/
theorem tookP_push {α : Type} {T e T' : TypeId} {n : Nat} {enc : α → List Value} {w0 : World} {bo : Nat} {v v' : Value} {w1 wA w5 : World} {xs : List α} {cs : Array Value} (h1 : Bk w1 bo T [v]) (h3 : v.ownBlock ≠ some bo) (hlow : w0.heap.size ≤ bo)
    (hb : Below w1.heap.size w1 wA) (hA : Acc w0 w0.heap.size e n enc w5 v' xs) (hg : (wA.alloc (.cells cs T')).grownBy w5 v.ownBlock) (hx : v'.ownBlock = v.ownBlock ∨ v'.ownBlock = some (wA.heap.size + 1)) {c : Int} (hc : c = 0) :
    TookP T e n enc w0 bo v w1 0 xs (.returned (.int .i64 c)) (w5.setCell ⟨bo, 0, none⟩ v') := by
  have hlt := h1.lt
  have hsz := hb.size
  have h1A : Bk (wA.alloc (.cells cs T')) bo T [v] := (h1.below hb).alloc _
  have h15 : Bk w5 bo T [v] := (hg.block bo h1A.lt (by intro e; exact h3 e.symm)).trans h1A
  have hown : v'.ownBlock ≠ some bo := fun e => by
    rcases hx with h | h
    · exact h3 (h ▸ e)
    · rw [h] at e; injection e with e; omega
  have hgs := hg.size
  rw [World.size_alloc] at hgs
  refine ⟨by rw [hc], ⟨v', (h15.set 0 v'), hA.setOther ⟨bo, 0, none⟩ v' (fun b hb' e => hown (by rw [hb', e])) hlow, hown⟩, by rw [size_put]; omega, fun X hX hne hnv => ?_⟩
  rw [Below.heap_setCell w5 ⟨bo, 0, none⟩ v' X hne, hg.block X (by rw [World.size_alloc]; omega) (by intro e; exact hnv e.symm)]
  have : (wA.alloc (.cells cs T')).heap[X]? = wA.heap[X]? := ((Below.refl wA.heap.size wA).alloc (Nat.le_refl _) _).block X (by omega)
  rw [this, hb.block X hX]
theorem tk_bk {bo : Nat} {T T' : TypeId} {v : Value} {us : List Value} {w w5 : World} {cs : Array Value} (h : Bk w bo T us) (h3 : v.ownBlock ≠ some bo) (hg : (w.alloc (.cells cs T')).grownBy w5 v.ownBlock) : Bk w5 bo T us :=
  (hg.block bo (h.alloc _).lt (by intro e; exact h3 e.symm)).trans (h.alloc _)
theorem lastLt_nil (d : ItemD) : lastLt [] d = true := rfl
theorem lastLt_get {xs : List ItemD} (d : ItemD) (h : 0 < xs.length) : lastLt xs d = Op.bytesLess (xs[xs.length - 1]'(by omega)).fKey.toList d.fKey.toList := by
  unfold lastLt
  rw [List.getLast?_eq_getElem?, List.getElem?_eq_getElem (by omega)]
set_option maxHeartbeats 4000000 in
theorem c_load1 (w0 : World) (bo : Nat) (v : Value) (xs : List ItemD) (d : ItemD) (bad : Bool) (w : World) (h1 : Bk w bo 24 [v]) (h2 : Acc w0 w0.heap.size 34 2 encItem w v xs) (h3 : v.ownBlock ≠ some bo) (hlow : w0.heap.size ≤ bo) (hl : xs.length ≤ 40) :
    Calls Tryd.prog 18 #[.agg #[.string d.fKey, .string d.fText], .bool bad, .pointer (some ⟨bo, 0, none⟩)] w (TookP 24 34 2 encItem w0 bo v w (loadStp xs d bad).1 (loadStp xs d bad).2) := by
  obtain ⟨i0, hi, iz0, iz1, iz2⟩ := info_parts info_Itm
  have H1 := hid h1
  have H2 := hid h2
  have H3 := hid h3
  obtain ⟨ad, cap, b, off, rfl, hm, had, hx⟩ := (h2.slo (fun _ => rfl)).1.uni
  have b0 := h1.cell 0 rfl
  have fb := h1.fr
  have hbo := h1.lt
  have hbz : (w.alloc (.cells #[.string d.fKey, .string d.fText] 34)).cell? ⟨bo, 0, none⟩ = some (.slice ad xs.length cap) := (h1.alloc _).cell 0 rfl
  clear h1 h2 h3
  cases bad
  case true =>
    have HR := hid (show loadStp xs d true = (10, xs) from rfl)
    go_enter Tryd.func18, Tryd.ntmps18
    go_wp2
    go_ret
    rw [HR.out]
    exact tookP_same H1.out H2.out H3.out (by (repeat' (first | (with_reducible exact Below.refl _ _) | (with_reducible refine Below.alloc ?_ ?_ _) | (with_reducible refine Below.drew ?_) | (with_reducible refine below_drewN ?_ _) | (with_reducible refine Below.setCell ?_ ?_ _) | (with_reducible refine below_via ‹_› ?_ ?_) | (with_reducible refine below_grow ?_ ?_ _ _) | omega | (simp; done) | (simp; omega)))) rfl
  case false =>
    by_cases h0 : xs.length = 0
    · have hx0 : xs = [] := List.eq_nil_of_length_eq_zero h0
      have HR := hid (show loadStp xs d false = (0, xs ++ [d]) by rw [hx0]; rfl)
      have hz1 : decide ((0 : Int) < (xs.length : Int)) = false := decide_eq_false (by omega)
      have hz2 : decide (0 < xs.length) = false := decide_eq_false (by omega)
      have hz3 : ((xs.length : Int) == 0) = true := by rw [beq_iff_eq]; omega
      clear hx had hx0 h0
      go_enter Tryd.func18, Tryd.ntmps18
      go_wp2_with fail
      go_quiet (fail)
      go_wp2_with (at_builtin; refine wpList_pushG rfl (.tmp 25) (.tmp 27) 24 rfl i0 _ 32 Tryd.underlying24 hi iz0 iz1 iz2 rfl (by decide) (fun _ => rfl) d rfl H2.out (by (repeat' (first | (with_reducible exact Below.refl _ _) | (with_reducible refine Below.alloc ?_ ?_ _) | (with_reducible refine Below.drew ?_) | (with_reducible refine below_drewN ?_ _) | (with_reducible refine Below.setCell ?_ ?_ _) | (with_reducible refine below_via ‹_› ?_ ?_) | (with_reducible refine below_grow ?_ ?_ _ _) | omega | (simp; done) | (simp; omega)))) 34 1 (by rw [size_drewN, World.size_alloc]; rfl) (one_encIt _) (by unfold maxLen; omega) (by omega) ?_; intro v5 w5 hA5 hg5 hx5; obtain ⟨ad5, cp5, hv5⟩ := (hA5.slo (fun _ => rfl)).1.form; rw [List.length_append, List.length_singleton] at hv5; subst hv5; have hb5 := tk_bk (Bk.drewN (Bk.alloc H1.out _) _) H3.out hg5; have c5 := hb5.cell 0 rfl; have f5 := hb5.fr; have hz5 := hb5.lt)
      go_ret
      rw [HR.out]
      exact tookP_push H1.out H3.out hlow (by (repeat' (first | (with_reducible exact Below.refl _ _) | (with_reducible refine Below.alloc ?_ ?_ _) | (with_reducible refine Below.drew ?_) | (with_reducible refine below_drewN ?_ _) | (with_reducible refine Below.setCell ?_ ?_ _) | (with_reducible refine below_via ‹_› ?_ ?_) | (with_reducible refine below_grow ?_ ?_ _ _) | omega | (simp; done) | (simp; omega)))) hA5 hg5 hx5 rfl
    · obtain ⟨rfl, hb, hlo, hcap, hcm⟩ := had (by omega)
      have hz1 : decide ((0 : Int) < (xs.length : Int)) = true := decide_eq_true (by omega)
      have hz2 : decide (0 < xs.length) = true := decide_eq_true (by omega)
      have hz3 : ((xs.length : Int) == 0) = false := by rw [beq_eq_false_iff_ne]; omega
      have hk1 : (1 : Int) ≤ xs.length := by omega
      have hk2 : (xs.length : Int) - 1 < xs.length := by omega
      have hkn := pred_nat (k := xs.length) (by omega)
      have hkw := pred_wrap (k := xs.length) (n := xs.length) (by omega) (by omega) hm
      have hLL := lastLt_get d (show 0 < xs.length by omega)
      have g2 := hx (xs.length - 1) (by omega) 0 (by omega)
      obtain ⟨p, hp⟩ : ∃ p, p = xs[xs.length - 1]'(by omega) := ⟨_, rfl⟩
      rw [← hp] at g2 hLL
      simp only [encItem, List.getD_cons_zero, Nat.add_zero] at g2
      clear hx had hp
      cases hlt : Op.bytesLess p.fKey.toList d.fKey.toList
      · have HR := hid (show loadStp xs d false = (7, xs) by simp [loadStp, hLL, hlt])
        clear h0 hLL
        go_enter Tryd.func18, Tryd.ntmps18
        go_wp2_with fail
        go_quiet (fail)
        go_wp2
        go_ret
        rw [HR.out]
        exact tookP_same H1.out H2.out H3.out (by (repeat' (first | (with_reducible exact Below.refl _ _) | (with_reducible refine Below.alloc ?_ ?_ _) | (with_reducible refine Below.drew ?_) | (with_reducible refine below_drewN ?_ _) | (with_reducible refine Below.setCell ?_ ?_ _) | (with_reducible refine below_via ‹_› ?_ ?_) | (with_reducible refine below_grow ?_ ?_ _ _) | omega | (simp; done) | (simp; omega)))) rfl
      · have HR := hid (show loadStp xs d false = (0, xs ++ [d]) by simp [loadStp, hLL, hlt])
        clear h0 hLL
        go_enter Tryd.func18, Tryd.ntmps18
        go_wp2_with fail
        go_quiet (fail)
        go_wp2_with (at_builtin; refine wpList_pushG rfl (.tmp 25) (.tmp 27) 24 rfl i0 _ 32 Tryd.underlying24 hi iz0 iz1 iz2 rfl (by decide) (fun _ => rfl) d rfl H2.out (by (repeat' (first | (with_reducible exact Below.refl _ _) | (with_reducible refine Below.alloc ?_ ?_ _) | (with_reducible refine Below.drew ?_) | (with_reducible refine below_drewN ?_ _) | (with_reducible refine Below.setCell ?_ ?_ _) | (with_reducible refine below_via ‹_› ?_ ?_) | (with_reducible refine below_grow ?_ ?_ _ _) | omega | (simp; done) | (simp; omega)))) 34 1 (by rw [size_drewN, World.size_alloc]; rfl) (one_encIt _) (by unfold maxLen; omega) (by omega) ?_; intro v5 w5 hA5 hg5 hx5; obtain ⟨ad5, cp5, hv5⟩ := (hA5.slo (fun _ => rfl)).1.form; rw [List.length_append, List.length_singleton] at hv5; subst hv5; have hb5 := tk_bk (Bk.drewN (Bk.alloc H1.out _) _) H3.out hg5; have c5 := hb5.cell 0 rfl; have f5 := hb5.fr; have hz5 := hb5.lt)
        go_ret
        rw [HR.out]
        exact tookP_push H1.out H3.out hlow (by (repeat' (first | (with_reducible exact Below.refl _ _) | (with_reducible refine Below.alloc ?_ ?_ _) | (with_reducible refine Below.drew ?_) | (with_reducible refine below_drewN ?_ _) | (with_reducible refine Below.setCell ?_ ?_ _) | (with_reducible refine below_via ‹_› ?_ ?_) | (with_reducible refine below_grow ?_ ?_ _ _) | omega | (simp; done) | (simp; omega)))) hA5 hg5 hx5 rfl
theorem loadStp_len (xs : List ItemD) (d : ItemD) (bad : Bool) : (loadStp xs d bad).2.length ≤ xs.length + 1 := by
  unfold loadStp; split
  · simp
  · split <;> simp
theorem salStp_len (xs : List ItemD) (d : ItemD) (bad : Bool) : (salStp xs d bad).2.length ≤ xs.length + 1 := by
  unfold salStp; split <;> simp
theorem takes_load (w0 : World) (bo : Nat) : Takes w0 18 #[.pointer (some ⟨bo, 0, none⟩)] loadStp (ListS 24 34 2 encItem w0 bo) := by
  refine ⟨fun k w w' a h hb => h.stay hb, fun k w a h => h.old, ?_, enter_of' (fn := Tryd.f18) Tryd.func18 (by kernel_rfl) (by kernel_rfl)⟩
  intro k w w1 xs d bad hR hb hk hd
  obtain ⟨⟨v, h1, h2, h3⟩, h4, h5⟩ := hR
  refine (c_load1 w0 bo v xs d bad w1 (h1.below hb) (h2.below hb) h3 h4 (by omega)).mono ?_
  rintro e w' ⟨rfl, ⟨v', k1, k2, k3⟩, hsz, hX⟩
  refine ⟨rfl, ⟨⟨v', k1, k2, k3⟩, h4, by have := loadStp_len xs d bad; omega⟩, fun X hX1 hX2 => ⟨hsz, hX X hX2 (by have := h1.lt; omega) (fun e => by have := acc_own lenItem h2 X e; omega)⟩⟩
/-- items and a code -/
def ItemsP (xs : List ItemD) (c : Int) (w : World) (e : Ending) (w' : World) : Prop := ∃ v, e = .returned (.tuple #[v, .int .i64 c]) ∧ Below w.heap.size w w' ∧ SlO w' w.heap.size 2 encItem v xs
theorem itemsP_none {xs : List ItemD} {c : Int} {w w' : World} (h : Below w.heap.size w w') (ho : xs = []) : ItemsP xs c w (.returned (.tuple #[.slice none 0 0, .int .i64 c])) w' := by
  subst ho; exact ⟨_, rfl, h, .inl ⟨none, 0, rfl, rfl, Nat.zero_le _⟩, fun g hg => by simp [Value.ownBlock] at hg⟩
theorem itemsP_some {xs : List ItemD} {c : Int} {w w' : World} {v : Value} (h : Below w.heap.size w w') (hS : SlO w' w.heap.size 2 encItem v xs) (hc : c = 0) : ItemsP xs c w (.returned (.tuple #[v, .int .i64 0])) w' := by
  subst hc; exact ⟨v, rfl, h, hS⟩
theorem listS_new {α : Type} {T e : TypeId} {n : Nat} {enc : α → List Value} (w : World) {W : World} (hW : W = (w.alloc (.cells #[] e)).alloc (.cells #[.slice (some ⟨w.heap.size, 0, none⟩) 0 0] T)) : ListS T e n enc w (w.heap.size + 1) 0 W ([] : List α) := by
  have hb : Below w.heap.size w W := by rw [hW]; (repeat' (first | (with_reducible exact Below.refl _ _) | (with_reducible refine Below.alloc ?_ ?_ _) | (with_reducible refine Below.drew ?_) | (with_reducible refine below_drewN ?_ _) | (with_reducible refine Below.setCell ?_ ?_ _) | (with_reducible refine below_via ‹_› ?_ ?_) | (with_reducible refine below_grow ?_ ?_ _ _) | omega | (simp; done) | (simp; omega)))
  refine ⟨⟨.slice (some ⟨w.heap.size, 0, none⟩) 0 0, ?_, ?_, by simp [Value.ownBlock]⟩, by omega, Nat.le_refl _⟩
  · rw [hW]
    exact Bk.new1 (by simp)
  · have hz : w.heap.size < W.heap.size := by rw [hW]; simp; omega
    refine ⟨⟨by simp, .inr ⟨w.heap.size, 0, #[], rfl, Nat.le_refl _, ?_, Nat.le_refl _, Nat.zero_le _, by simp, by simp⟩⟩, ⟨hb.os, hb.tape, hb.output, hb.size, fun k hk _ => hb.block k hk⟩, fun b hb => by simp [Value.ownBlock] at hb; exact .inl hb.symm, Nat.le_refl _⟩
    rw [hW]
    have h1 : (w.alloc (.cells #[] e)).heap[w.heap.size]? = some (.cells #[] e) := heap_alloc_new _ _
    rw [((Below.refl (w.alloc (.cells #[] e)).heap.size _).alloc (Nat.le_refl _) _).block _ (by simp)]
    exact h1
set_option maxHeartbeats 2000000 in
theorem c_impl_LoadItems (s : ByteArray) (w : World) (hs : (s.size : Int) ≤ 1048576) (hrd : Rd w) :
    Calls Tryd.prog 9 #[.string s] w (ItemsP (loadR s.data.toList) (loadC s.data.toList) w) := by
  obtain ⟨W, hW⟩ : ∃ W, W = (w.alloc (.cells #[] 34)).alloc (.cells #[.slice (some ⟨w.heap.size, 0, none⟩) 0 0] 24) := ⟨_, rfl⟩
  have cr := c_readFrames w _ _ _ _ (takes_load w (w.heap.size + 1)) s [] W hs (listS_new w hW) hrd
  have HW := hid hW
  obtain ⟨r, hr⟩ : ∃ r, r = arcL loadStp [] s.data.toList := ⟨_, rfl⟩
  have HC := hid (show loadC s.data.toList = r.1 by rw [hr]; rfl)
  have HV := hid (show loadR s.data.toList = if r.1 = 0 then r.2 else [] by rw [hr]; rfl)
  rw [← hr] at cr
  obtain ⟨c, hc⟩ : ∃ c, c = r.1 := ⟨_, rfl⟩
  unfold ArcP at cr
  rw [← hc] at cr HC HV
  clear hW hr hc
  go_enter Tryd.func9, Tryd.ntmps9
  go_wp2_with fail
  rw [← HW.out]
  refine cr.mono ?_
  rintro e w1 ⟨rfl, k, hR⟩
  have hB := hR.old
  obtain ⟨⟨v, h1, h2, h3⟩, h4, h5⟩ := hR
  have b0 := h1.cell 0 rfl
  have HS := hid (h2.slo (fun _ => rfl))
  obtain ⟨ad, cap, rfl⟩ := HS.out.1.form
  clear h1 h2 h3 h4 h5 cr
  cases hc0 : (c != 0)
  · have e0 : c = 0 := by simpa using hc0
    have HV2 := hid (show loadR s.data.toList = r.2 by rw [HV.out, if_pos e0])
    have HE := hid e0
    clear e0
    go_wp2_with fail
    go_ret2
    rw [HV2.out, HC.out]
    exact itemsP_some hB HS.out HE.out
  · have e0 : c ≠ 0 := by simpa using hc0
    have HV2 := hid (show loadR s.data.toList = [] by rw [HV.out, if_neg e0])
    clear e0
    go_wp2_with fail
    go_ret2
    rw [HC.out]
    exact itemsP_none hB HV2.out
end Go.Proofs.YtabbhlehbhadiaaDoor
