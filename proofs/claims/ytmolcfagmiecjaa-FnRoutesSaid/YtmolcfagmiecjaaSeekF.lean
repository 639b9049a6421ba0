/- The program's first voyage, number of voyages, most works. -/
import Derived.Test.YtmolcfagmiecjaaSeekC
namespace Go.Proofs.Ytmolcfagmiecjaa
open Go.RowKit Go.Sort
set_option maxRecDepth 100000

theorem cell_set1 {w : World} {b : Nat} {v u : Value} (h : w.cell? ⟨b, 0, none⟩ = some u) : (w.setCell ⟨b, 0, none⟩ v).cell? ⟨b, 0, none⟩ = some v := cell_here h
/-- a variable of one cell -/
structure Var1 (b : Nat) (w : World) (v : Value) : Prop where
  lt : b < w.heap.size
  c : w.cell? ⟨b, 0, none⟩ = some v
  fr : w.frozen? ⟨b, 0, none⟩ = false
theorem Var1.set {b : Nat} {w : World} {v u : Value} (h : Var1 b w v) : Var1 b (w.setCell ⟨b, 0, none⟩ u) u := ⟨by rw [size_set]; exact h.lt, cell_here h.c, by rw [World.frozen?_setCell]; exact h.fr⟩
theorem Var1.far {b b' : Nat} {w : World} {v u : Value} (h : Var1 b w v) (hne : b ≠ b') : Var1 b (w.setCell ⟨b', 0, none⟩ u) v := ⟨by rw [size_set]; exact h.lt, cell_far h.c (by omega), by rw [World.frozen?_setCell]; exact h.fr⟩
theorem Var1.kept {b : Nat} {w w' : World} {v : Value} (h : Var1 b w v) {M : Nat → Prop} (hk : Kept M w w') (hm : ¬ M b) : Var1 b w' v := ⟨Nat.lt_of_lt_of_le h.lt hk.size, hk.cell h.lt hm h.c, by rw [hk.frozen h.lt hm]; exact h.fr⟩
theorem Var1.below {b : Nat} {w w' : World} {v : Value} (h : Var1 b w v) (hk : Below w.heap.size w w') : Var1 b w' v := h.kept (Kept.of (M := fun _ => False) hk) (fun h => h)

/-! ### the first -/
def firstI (m : Nat) (a : Option (List Int)) (os : List Int) : Option (List Int) × Bool := if os.length = m then (some os, false) else (a, a.isNone)
def AnsF (B g : Nat) (bf bd : Nat) (w : World) : Option (List Int) → Prop
  | none => Var1 bf w (.slice none 0 0) ∧ Var1 bd w (.bool false)
  | some os => ∃ v, Var1 bf w v ∧ Var1 bd w (.bool true) ∧ SlO w B 1 encI v os ∧ (∀ b, v.ownBlock = some b → b ≠ bf ∧ b ≠ bd ∧ b ≠ g)
structure FirstS (B : Nat) (bl bf bd : Nat) (lv : Value) (g : Nat) (w : World) (a : Option (List Int)) : Prop where
  l : Var1 bl w lv
  a : AnsF B g bf bd w a
def Mem3 (i j k : Nat) (b : Nat) : Prop := b = i ∨ b = j ∨ b = k
theorem AnsF.keep {B g bf bd : Nat} {w w' : World} {a : Option (List Int)} (h : AnsF B g bf bd w a) (hk : Kept (fun k => k = g) w w') (h1 : bf ≠ g) (h2 : bd ≠ g) : AnsF B g bf bd w' a := by
  cases a with
  | none => exact ⟨h.1.kept hk h1, h.2.kept hk h2⟩
  | some os => obtain ⟨v, k1, k2, k3, k4⟩ := h; exact ⟨v, k1.kept hk h1, k2.kept hk h2, k3.kept hk fun b hb e => (k4 b hb).2.2 e, k4⟩
theorem enter_of {P : Program} {f : FuncId} {fn : Func} (hf : P.funcs[f]? = some fn) (hname : (fn.name == "runtime.NumGoroutine") = false) (hb : fn.body.isSome = true) (args : Array Value) (w : World) : (callFunc f args).run P w = .ok (.enter f args) w := by
  have h1 : fn.name ≠ "runtime.NumGoroutine" := by simpa using hname
  obtain ⟨c, hc⟩ := Option.isSome_iff_exists.1 hb
  simp [callFunc, hf, h1, hc]
def Looked (w1 w' : World) (r : Bool) (e : Ending) : Prop := e = .returned (.bool r) ∧ w' = w1
theorem c_first1 (adl : Option Addr) (m cpl bl bf bd : Nat) (adv : Option Addr) (cpv : Nat) (os : List Int) (d : Bool) (u : Value) (w : World) (hl : Var1 bl w (.slice adl m cpl)) (hf : Var1 bf w u) (hd : Var1 bd w (.bool d)) (hne : bf ≠ bd) :
    Calls Try.prog 80 #[.slice adv os.length cpv, .pointer (some ⟨bl, 0, none⟩), .pointer (some ⟨bf, 0, none⟩), .pointer (some ⟨bd, 0, none⟩)] w fun e w' =>
      Looked (if os.length = m then (w.setCell ⟨bf, 0, none⟩ (.slice adv os.length cpv)).setCell ⟨bd, 0, none⟩ (.bool true) else w) w' (if os.length = m then false else !d) e := by
  obtain ⟨l1, l2, l3⟩ := hl
  obtain ⟨f1, f2, f3⟩ := hf
  obtain ⟨d1, d2, d3⟩ := hd
  by_cases h : os.length = m
  · have h1 : ((os.length : Int) == (m : Int)) = true := by rw [h]; simp
    have H := hid h
    clear h
    have k1 : (w.setCell ⟨bf, 0, none⟩ (.slice adv os.length cpv)).cell? ⟨bd, 0, none⟩ = some (.bool d) := cell_far d2 (by omega)
    have k2 : (w.setCell ⟨bf, 0, none⟩ (.slice adv os.length cpv)).frozen? ⟨bd, 0, none⟩ = false := by rw [World.frozen?_setCell]; exact d3
    have k3 : ((w.setCell ⟨bf, 0, none⟩ (.slice adv os.length cpv)).setCell ⟨bd, 0, none⟩ (.bool true)).cell? ⟨bd, 0, none⟩ = some (.bool true) := cell_here k1
    go_enter Try.func80, Try.ntmps80
    go_wp2
    go_ret
    exact ⟨rfl, rfl⟩
  · have h1 : ((os.length : Int) == (m : Int)) = false := by rw [beq_eq_false_iff_ne]; omega
    have H := hid h
    clear h
    go_enter Try.func80, Try.ntmps80
    go_wp2
    go_ret
    exact ⟨rfl, rfl⟩
theorem looks_first {Q : List Int → Prop} (B bl bf bd m cpl : Nat) (adl : Option Addr) (h1 : bl ≠ bf) (h2 : bl ≠ bd) (h3 : bf ≠ bd) (g : Nat) (hg : ¬ Mem3 bl bf bd g) :
    Looks (Mem3 bl bf bd) g B m Q 80 #[.pointer (some ⟨bl, 0, none⟩), .pointer (some ⟨bf, 0, none⟩), .pointer (some ⟨bd, 0, none⟩)] (firstI m) (FirstS B bl bf bd (.slice adl m cpl) g) := by
  simp only [Mem3, not_or] at hg
  obtain ⟨g1, g2, g3⟩ := hg
  refine ⟨fun w w' a h hk => ⟨h.l.kept hk (fun e => g1 e.symm), h.a.keep hk (fun e => g2 e.symm) (fun e => g3 e.symm)⟩, ?_, by simp only [Mem3, not_or]; exact ⟨g1, g2, g3⟩, enter_of (fn := Try.f80) Try.func80 (by kernel_rfl) (by kernel_rfl)⟩
  intro w a os v hR hS hA hl _
  obtain ⟨adv, cpv, rfl⟩ := hS.1.form
  obtain ⟨u, d, hf, hd, hda⟩ : ∃ u d, Var1 bf w u ∧ Var1 bd w (.bool d) ∧ (!d) = a.isNone := by
    have := hR.a
    cases a with
    | none => exact ⟨_, _, this.1, this.2, rfl⟩
    | some os => obtain ⟨v, k1, k2, -⟩ := this; exact ⟨_, _, k1, k2, rfl⟩
  refine (c_first1 adl m cpl bl bf bd adv cpv os d u w hR.l hf hd h3).mono ?_
  rintro e w' ⟨rfl, rfl⟩
  by_cases h : os.length = m
  · rw [if_pos h, if_pos h, firstI, if_pos h]
    have hk : Kept (Mem3 bl bf bd) w ((w.setCell ⟨bf, 0, none⟩ (.slice adv os.length cpv)).setCell ⟨bd, 0, none⟩ (.bool true)) := ((Kept.refl _ w).set _ _ (.inr (.inl rfl))).set _ _ (.inr (.inr rfl))
    refine ⟨rfl, ⟨(hR.l.far h1).far h2, _, hf.set.far h3, (hd.far (fun e => h3 e.symm)).set, hS.kept hk fun b hb => (hA b hb).1, fun b hb => ?_⟩, hk⟩
    obtain ⟨k1, k2⟩ := hA b hb
    simp only [Mem3, not_or] at k1
    exact ⟨k1.2.1, k1.2.2, k2⟩
  · rw [if_neg h, if_neg h, firstI, if_neg h]
    exact ⟨by rw [hda], hR, Kept.refl _ _⟩
def fvA (a b x y : Int) (ws : List WorkD) (t q : Int) : Res (Option (List Int)) := seekF (firstI ws.length) a b x y ws t q none
def fvC (s : ByteArray) (a b c x y : Int) (ws : List WorkD) (t q : Int) : Int := if rtC s a b c x y ws t q (fvA a b x y ws t q).code = 0 then (if (fvA a b x y ws t q).ans.isSome then 0 else 3) else rtC s a b c x y ws t q (fvA a b x y ws t q).code
def fvL (s : ByteArray) (a b c x y : Int) (ws : List WorkD) (t q : Int) : List Int := if rtC s a b c x y ws t q (fvA a b x y ws t q).code = 0 then (fvA a b x y ws t q).ans.getD [] else []
theorem slO_orderCode {w w' : World} (h : Below w.heap.size w w') {v : Value} {code : Int} {os : List Int} (hs : SlO w' w.heap.size 1 encI v os) : OrderCode w w' os code (.returned (.tuple #[v, .int .i64 code])) := ⟨_, rfl, h, hs⟩
theorem far_of {w : World} {ad : Option Addr} {n c : Nat} {ws : List WorkD} (h : SlA w 0 7 encWork (.slice ad n c) ws) (hn : 0 < ws.length) : ∀ b', (Value.slice ad n c).ownBlock = some b' → b' < w.heap.size := fun b' hb => by
  obtain ⟨ad', cp', b, o, e, -, k, -⟩ := h.uni
  injection e with e1 e2 e3
  obtain ⟨k1, k2, -⟩ := k hn
  rw [e1, k1] at hb; simp [Value.ownBlock] at hb; omega
set_option maxHeartbeats 2000000 in
theorem c_impl_FirstVoyage (s : ByteArray) (a b c x y : Int) (v : Value) (ws : List WorkD) (t q : Int) (w : World) (hs : s.size ≤ maxLen) (h : SlA w 0 7 encWork v ws) (hok : ∀ x ∈ ws, okWork x) :
    Calls Try.prog 31 #[.agg #[.string s, .int .i64 a, .int .i64 b, .int .i64 c], .agg #[.int .i64 x, .int .i64 y], v, .int .i64 t, .int .i64 q] w fun e w' => OrderCode w w' (fvL s a b c x y ws t q) (fvC s a b c x y ws t q) e := by
  obtain ⟨adl, cpl, hvf⟩ := h.form
  subst hvf
  have H := h
  have HFar := hid (fun hp => far_of h hp)
  clear h
  have HC := hid (show fvC s a b c x y ws t q = if rtC s a b c x y ws t q (fvA a b x y ws t q).code = 0 then (if (fvA a b x y ws t q).ans.isSome then 0 else 3) else rtC s a b c x y ws t q (fvA a b x y ws t q).code from rfl)
  have HV := hid (show fvL s a b c x y ws t q = if rtC s a b c x y ws t q (fvA a b x y ws t q).code = 0 then (fvA a b x y ws t q).ans.getD [] else [] from rfl)
  go_enter Try.func31, Try.ntmps31
  go_wp2_with fail
  obtain ⟨W5, hW5⟩ : ∃ z, z = ((((w.alloc (Obj.cells #[.string s, .int .i64 a, .int .i64 b, .int .i64 c] 25)).alloc (Obj.cells #[.int .i64 x, .int .i64 y] 33)).alloc (Obj.cells #[.slice adl ws.length cpl] 27)).alloc (Obj.cells #[.slice none 0 0] 29)).alloc (Obj.cells #[.bool false] 4) := ⟨_, rfl⟩
  rw [← hW5]
  have hB5 : Below w.heap.size w W5 := by rw [hW5]; (repeat' (first | (with_reducible exact Below.refl _ _) | (with_reducible refine Below.alloc ?_ ?_ _) | (with_reducible refine Below.drew ?_) | (with_reducible refine below_drewN ?_ _) | (with_reducible refine Below.setCell ?_ ?_ _) | (with_reducible refine below_via ‹_› ?_ ?_) | (with_reducible refine below_grow ?_ ?_ _ _) | omega | (simp; done) | (simp; omega)))
  have hz5 : W5.heap.size = w.heap.size + 5 := by rw [hW5]; simp
  have v1 : Var1 (w.heap.size + 1 + 1) W5 (.slice adl ws.length cpl) := ⟨by omega, by rw [hW5]; simp [go_sem], by rw [hW5]; simp [go_sem]⟩
  have v2 : Var1 (w.heap.size + 1 + 1 + 1) W5 (.slice none 0 0) := ⟨by omega, by rw [hW5]; simp [go_sem], by rw [hW5]; simp [go_sem]⟩
  have v3 : Var1 (w.heap.size + 1 + 1 + 1 + 1) W5 (.bool false) := ⟨by omega, by rw [hW5]; simp [go_sem], by rw [hW5]; simp [go_sem]⟩
  have hM : ∀ k, Mem3 (w.heap.size + 1 + 1) (w.heap.size + 1 + 1 + 1) (w.heap.size + 1 + 1 + 1 + 1) k → w.heap.size ≤ k ∧ k < W5.heap.size := fun k hk => by rcases hk with e | e | e <;> omega
  have cr := c_routes (Mem3 (w.heap.size + 1 + 1) (w.heap.size + 1 + 1 + 1) (w.heap.size + 1 + 1 + 1 + 1)) w.heap.size 80 _ (firstI ws.length) (FirstS w.heap.size (w.heap.size + 1 + 1) (w.heap.size + 1 + 1 + 1) (w.heap.size + 1 + 1 + 1 + 1) (.slice adl ws.length cpl)) s a b c x y t q adl cpl ws W5 none hs (H.at hB5) hok HFar.out (by omega) hM
    (fun g hg => looks_first w.heap.size _ _ _ ws.length cpl adl (by omega) (by omega) (by omega) g hg) (fun g w' hb hg => ⟨v1.below hb, v2.below hb, v3.below hb⟩)
  have hB0 : ∀ w', Kept (Mem3 (w.heap.size + 1 + 1) (w.heap.size + 1 + 1 + 1) (w.heap.size + 1 + 1 + 1 + 1)) W5 w' → Below w.heap.size w w' := fun w' hk => hB5.trans (hk.below hB5.size fun k h => (hM k h).1)
  clear hW5 v1 v2 v3 hM hB5
  change Calls _ _ _ _ fun e w' => RoutesR _ _ _ _ (rtC s a b c x y ws t q (fvA a b x y ws t q).code) (fvA a b x y ws t q).ans e at cr
  obtain ⟨r, hr⟩ : ∃ r, r = fvA a b x y ws t q := ⟨_, rfl⟩
  rw [← hr] at cr HC HV
  obtain ⟨code, hcode⟩ : ∃ z, z = rtC s a b c x y ws t q r.code := ⟨_, rfl⟩
  rw [← hcode] at cr HC HV
  clear hr hcode
  by_cases h0 : code = 0
  · subst h0
    cases ha : r.ans with
    | none =>
      have HC2 := hid (show fvC s a b c x y ws t q = 3 by rw [HC.out, if_pos rfl, ha]; rfl)
      have HV2 := hid (show fvL s a b c x y ws t q = [] by rw [HV.out, if_pos rfl, ha]; rfl)
      rw [ha] at cr
      clear ha
      refine cr.mono ?_
      rintro e w5 ⟨rfl, hK, hR⟩
      obtain ⟨g, hR⟩ := hR rfl
      have hB := hB0 _ hK
      obtain ⟨k1, k2, k3⟩ := hR.a.2
      go_wp2
      go_ret2
      rw [HC2.out]
      exact orderCode_none hB HV2.out
    | some os =>
      have HC2 := hid (show fvC s a b c x y ws t q = 0 by rw [HC.out, if_pos rfl, ha]; rfl)
      have HV2 := hid (show fvL s a b c x y ws t q = os by rw [HV.out, if_pos rfl, ha]; rfl)
      rw [ha] at cr
      clear ha
      refine cr.mono ?_
      rintro e w5 ⟨rfl, hK, hR⟩
      obtain ⟨g, hR⟩ := hR rfl
      have hB := hB0 _ hK
      obtain ⟨v, k1, k2, k3, -⟩ := hR.a
      obtain ⟨k4, k5, k6⟩ := k1
      obtain ⟨k7, k8, k9⟩ := k2
      have K3 := hid k3
      clear k3 hR
      go_wp2
      go_ret2
      rw [HC2.out, HV2.out]
      exact slO_orderCode hB K3.out
  · have hne : (code != 0) = true := by simpa using h0
    have HC2 := hid (show fvC s a b c x y ws t q = code by rw [HC.out, if_neg h0])
    have HV2 := hid (show fvL s a b c x y ws t q = [] by rw [HV.out, if_neg h0])
    clear h0
    refine cr.mono ?_
    rintro e w5 ⟨rfl, hK, -⟩
    have hB := hB0 _ hK
    go_wp2
    go_ret2
    rw [HC2.out]
    exact orderCode_none hB HV2.out

/-! ### how many -/
def countI (m : Nat) (a : Int) (os : List Int) : Int × Bool := if os.length = m then (wrap64 (a + 1), true) else (a, true)
structure CountS (bl bc : Nat) (lv : Value) (w : World) (a : Int) : Prop where
  l : Var1 bl w lv
  c : Var1 bc w (.int .i64 a)
def Mem2 (i j : Nat) (b : Nat) : Prop := b = i ∨ b = j
theorem c_count1 (adl : Option Addr) (m cpl bl bc : Nat) (adv : Option Addr) (cpv : Nat) (os : List Int) (n : Int) (w : World) (hl : Var1 bl w (.slice adl m cpl)) (hc : Var1 bc w (.int .i64 n)) :
    Calls Try.prog 82 #[.slice adv os.length cpv, .pointer (some ⟨bl, 0, none⟩), .pointer (some ⟨bc, 0, none⟩)] w fun e w' =>
      Looked (if os.length = m then w.setCell ⟨bc, 0, none⟩ (.int .i64 (wrap64 (n + 1))) else w) w' true e := by
  obtain ⟨l1, l2, l3⟩ := hl
  obtain ⟨f1, f2, f3⟩ := hc
  by_cases h : os.length = m
  · have h1 : ((os.length : Int) == (m : Int)) = true := by rw [h]; simp
    have H := hid h
    clear h
    go_enter Try.func82, Try.ntmps82
    go_wp2
    go_ret
    first | exact ⟨rfl, rfl⟩ | (rw [if_pos H.out]; exact ⟨rfl, rfl⟩)
  · have h1 : ((os.length : Int) == (m : Int)) = false := by rw [beq_eq_false_iff_ne]; omega
    have H := hid h
    clear h
    go_enter Try.func82, Try.ntmps82
    go_wp2
    go_ret
    first | exact ⟨rfl, rfl⟩ | (rw [if_neg H.out]; exact ⟨rfl, rfl⟩)
theorem looks_count {Q : List Int → Prop} (B bl bc m cpl : Nat) (adl : Option Addr) (h1 : bl ≠ bc) (g : Nat) (hg : ¬ Mem2 bl bc g) :
    Looks (Mem2 bl bc) g B m Q 82 #[.pointer (some ⟨bl, 0, none⟩), .pointer (some ⟨bc, 0, none⟩)] (countI m) (CountS bl bc (.slice adl m cpl)) := by
  simp only [Mem2, not_or] at hg
  obtain ⟨g1, g2⟩ := hg
  refine ⟨fun w w' a h hk => ⟨h.l.kept hk (fun e => g1 e.symm), h.c.kept hk (fun e => g2 e.symm)⟩, ?_, by simp only [Mem2, not_or]; exact ⟨g1, g2⟩, enter_of (fn := Try.f82) Try.func82 (by kernel_rfl) (by kernel_rfl)⟩
  intro w a os v hR hS hA hl _
  obtain ⟨adv, cpv, rfl⟩ := hS.1.form
  refine (c_count1 adl m cpl bl bc adv cpv os a w hR.l hR.c).mono ?_
  rintro e w' ⟨rfl, rfl⟩
  by_cases h : os.length = m
  · rw [if_pos h, countI, if_pos h]
    exact ⟨rfl, ⟨hR.l.far h1, hR.c.set⟩, (Kept.refl _ w).set _ _ (.inr rfl)⟩
  · rw [if_neg h, countI, if_neg h]
    exact ⟨rfl, hR, Kept.refl _ _⟩
def cvA (a b x y : Int) (ws : List WorkD) (t q : Int) : Res Int := seekF (countI ws.length) a b x y ws t q 0
def cvC (s : ByteArray) (a b c x y : Int) (ws : List WorkD) (t q : Int) : Int := rtC s a b c x y ws t q (cvA a b x y ws t q).code
def cvV (s : ByteArray) (a b c x y : Int) (ws : List WorkD) (t q : Int) : Int := if cvC s a b c x y ws t q = 0 then (cvA a b x y ws t q).ans else 0
set_option maxHeartbeats 2000000 in
theorem c_impl_CountVoyages (s : ByteArray) (a b c x y : Int) (v : Value) (ws : List WorkD) (t q : Int) (w : World) (hs : s.size ≤ maxLen) (h : SlA w 0 7 encWork v ws) (hok : ∀ x ∈ ws, okWork x) :
    Calls Try.prog 33 #[.agg #[.string s, .int .i64 a, .int .i64 b, .int .i64 c], .agg #[.int .i64 x, .int .i64 y], v, .int .i64 t, .int .i64 q] w fun e w' => e = .returned (.tuple #[.int .i64 (cvV s a b c x y ws t q), .int .i64 (cvC s a b c x y ws t q)]) ∧ Below w.heap.size w w' := by
  obtain ⟨adl, cpl, hvf⟩ := h.form
  subst hvf
  have H := h
  have HFar := hid (fun hp => far_of h hp)
  clear h
  go_enter Try.func33, Try.ntmps33
  go_wp2_with fail
  obtain ⟨W5, hW5⟩ : ∃ z, z = (((w.alloc (Obj.cells #[.string s, .int .i64 a, .int .i64 b, .int .i64 c] 25)).alloc (Obj.cells #[.int .i64 x, .int .i64 y] 33)).alloc (Obj.cells #[.slice adl ws.length cpl] 27)).alloc (Obj.cells #[.int .i64 0] 2) := ⟨_, rfl⟩
  rw [← hW5]
  have hB5 : Below w.heap.size w W5 := by rw [hW5]; (repeat' (first | (with_reducible exact Below.refl _ _) | (with_reducible refine Below.alloc ?_ ?_ _) | (with_reducible refine Below.drew ?_) | (with_reducible refine below_drewN ?_ _) | (with_reducible refine Below.setCell ?_ ?_ _) | (with_reducible refine below_via ‹_› ?_ ?_) | (with_reducible refine below_grow ?_ ?_ _ _) | omega | (simp; done) | (simp; omega)))
  have hz5 : W5.heap.size = w.heap.size + 4 := by rw [hW5]; simp
  have v1 : Var1 (w.heap.size + 1 + 1) W5 (.slice adl ws.length cpl) := ⟨by omega, by rw [hW5]; simp [go_sem], by rw [hW5]; simp [go_sem]⟩
  have v2 : Var1 (w.heap.size + 1 + 1 + 1) W5 (.int .i64 0) := ⟨by omega, by rw [hW5]; simp [go_sem], by rw [hW5]; simp [go_sem]⟩
  have hM : ∀ k, Mem2 (w.heap.size + 1 + 1) (w.heap.size + 1 + 1 + 1) k → w.heap.size ≤ k ∧ k < W5.heap.size := fun k hk => by rcases hk with e | e <;> omega
  have cr := c_routes (Mem2 (w.heap.size + 1 + 1) (w.heap.size + 1 + 1 + 1)) w.heap.size 82 _ (countI ws.length) (fun _ => CountS (w.heap.size + 1 + 1) (w.heap.size + 1 + 1 + 1) (.slice adl ws.length cpl)) s a b c x y t q adl cpl ws W5 0 hs (H.at hB5) hok HFar.out (by omega) hM
    (fun g hg => looks_count w.heap.size _ _ ws.length cpl adl (by omega) g hg) (fun g w' hb hg => ⟨v1.below hb, v2.below hb⟩)
  have hB0 : ∀ w', Kept (Mem2 (w.heap.size + 1 + 1) (w.heap.size + 1 + 1 + 1)) W5 w' → Below w.heap.size w w' := fun w' hk => hB5.trans (hk.below hB5.size fun k h => (hM k h).1)
  clear hW5 v1 v2 hM hB5
  change Calls _ _ _ _ fun e w' => RoutesR _ _ _ _ (cvC s a b c x y ws t q) (cvA a b x y ws t q).ans e at cr
  by_cases h0 : cvC s a b c x y ws t q = 0
  · have HV := hid (show cvV s a b c x y ws t q = (cvA a b x y ws t q).ans by rw [cvV, if_pos h0])
    have H0 := hid h0
    rw [h0] at cr
    clear h0
    obtain ⟨n, hn⟩ : ∃ n, n = (cvA a b x y ws t q).ans := ⟨_, rfl⟩
    rw [← hn] at cr HV
    clear hn
    refine cr.mono ?_
    rintro e w5 ⟨rfl, hK, hR⟩
    obtain ⟨g, hR⟩ := hR rfl
    have hB := hB0 _ hK
    obtain ⟨k1, k2, k3⟩ := hR.c
    clear hR
    go_wp2
    go_ret2
    exact ⟨by rw [HV.out, H0.out]; rfl, hB⟩
  · have hne : (cvC s a b c x y ws t q != 0) = true := by simpa using h0
    have HV := hid (show cvV s a b c x y ws t q = 0 by rw [cvV, if_neg h0])
    clear h0
    refine cr.mono ?_
    rintro e w5 ⟨rfl, hK, -⟩
    have hB := hB0 _ hK
    go_wp2
    go_ret2
    exact ⟨by rw [HV.out]; rfl, hB⟩

/-! ### the most -/
def mostI (a : List Int) (os : List Int) : List Int × Bool := if a.length < os.length then (os, true) else (a, true)
def MostS (B bf g : Nat) (w : World) (a : List Int) : Prop := ∃ v, Var1 bf w v ∧ SlO w B 1 encI v a ∧ ∀ b, v.ownBlock = some b → b ≠ bf ∧ b ≠ g
def Mem1 (i : Nat) (b : Nat) : Prop := b = i
theorem c_most1 (bf : Nat) (adv adu : Option Addr) (cpv cpu m : Nat) (os : List Int) (w : World) (hf : Var1 bf w (.slice adu m cpu)) :
    Calls Try.prog 83 #[.slice adv os.length cpv, .pointer (some ⟨bf, 0, none⟩)] w fun e w' =>
      Looked (if m < os.length then w.setCell ⟨bf, 0, none⟩ (.slice adv os.length cpv) else w) w' true e := by
  obtain ⟨f1, f2, f3⟩ := hf
  by_cases h : m < os.length
  · have h1 : decide ((m : Int) < (os.length : Int)) = true := by simp; omega
    have h2 : (m : Int) < (os.length : Int) := by omega
    have H := hid h
    clear h
    go_enter Try.func83, Try.ntmps83
    go_wp2
    go_ret
    first | exact ⟨rfl, rfl⟩ | (rw [if_pos H.out]; exact ⟨rfl, rfl⟩)
  · have h1 : decide ((m : Int) < (os.length : Int)) = false := by simp; omega
    have h2 : (os.length : Int) ≤ (m : Int) := by omega
    have H := hid h
    clear h
    go_enter Try.func83, Try.ntmps83
    go_wp2
    go_ret
    first | exact ⟨rfl, rfl⟩ | (rw [if_neg H.out]; exact ⟨rfl, rfl⟩)
theorem looks_most {Q : List Int → Prop} (B bf m : Nat) (g : Nat) (hg : ¬ Mem1 bf g) :
    Looks (Mem1 bf) g B m Q 83 #[.pointer (some ⟨bf, 0, none⟩)] mostI (MostS B bf g) := by
  simp only [Mem1] at hg
  refine ⟨fun w w' a h hk => ?_, ?_, hg, enter_of (fn := Try.f83) Try.func83 (by kernel_rfl) (by kernel_rfl)⟩
  · obtain ⟨v, k1, k2, k3⟩ := h
    exact ⟨v, k1.kept hk (fun e => hg e.symm), k2.kept hk fun b hb e => (k3 b hb).2 e, k3⟩
  intro w a os v hR hS hA hl _
  obtain ⟨adv, cpv, rfl⟩ := hS.1.form
  obtain ⟨u, k1, k2, k3⟩ := hR
  obtain ⟨adu, cpu, rfl⟩ := k2.1.form
  refine (c_most1 bf adv adu cpv cpu a.length os w k1).mono ?_
  rintro e w' ⟨rfl, rfl⟩
  by_cases h : a.length < os.length
  · rw [if_pos h, mostI, if_pos h]
    have hk : Kept (Mem1 bf) w (w.setCell ⟨bf, 0, none⟩ (.slice adv os.length cpv)) := (Kept.refl _ w).set _ _ rfl
    exact ⟨rfl, ⟨_, k1.set, hS.kept hk fun b hb => (hA b hb).1, fun b hb => hA b hb⟩, hk⟩
  · rw [if_neg h, mostI, if_neg h]
    exact ⟨rfl, ⟨_, k1, k2, k3⟩, Kept.refl _ _⟩
def mwA (a b x y : Int) (ws : List WorkD) (t q : Int) : Res (List Int) := seekF mostI a b x y ws t q []
def mwC (s : ByteArray) (a b c x y : Int) (ws : List WorkD) (t q : Int) : Int := rtC s a b c x y ws t q (mwA a b x y ws t q).code
def mwL (s : ByteArray) (a b c x y : Int) (ws : List WorkD) (t q : Int) : List Int := if mwC s a b c x y ws t q = 0 then (mwA a b x y ws t q).ans else []
set_option maxHeartbeats 2000000 in
theorem c_impl_MostWorks (s : ByteArray) (a b c x y : Int) (v : Value) (ws : List WorkD) (t q : Int) (w : World) (hs : s.size ≤ maxLen) (h : SlA w 0 7 encWork v ws) (hok : ∀ x ∈ ws, okWork x) :
    Calls Try.prog 34 #[.agg #[.string s, .int .i64 a, .int .i64 b, .int .i64 c], .agg #[.int .i64 x, .int .i64 y], v, .int .i64 t, .int .i64 q] w fun e w' => OrderCode w w' (mwL s a b c x y ws t q) (mwC s a b c x y ws t q) e := by
  obtain ⟨adl, cpl, hvf⟩ := h.form
  subst hvf
  have H := h
  have HFar := hid (fun hp => far_of h hp)
  clear h
  go_enter Try.func34, Try.ntmps34
  go_wp2_with fail
  obtain ⟨W5, hW5⟩ : ∃ z, z = ((w.alloc (Obj.cells #[.string s, .int .i64 a, .int .i64 b, .int .i64 c] 25)).alloc (Obj.cells #[.int .i64 x, .int .i64 y] 33)).alloc (Obj.cells #[.slice none 0 0] 29) := ⟨_, rfl⟩
  rw [← hW5]
  have hB5 : Below w.heap.size w W5 := by rw [hW5]; (repeat' (first | (with_reducible exact Below.refl _ _) | (with_reducible refine Below.alloc ?_ ?_ _) | (with_reducible refine Below.drew ?_) | (with_reducible refine below_drewN ?_ _) | (with_reducible refine Below.setCell ?_ ?_ _) | (with_reducible refine below_via ‹_› ?_ ?_) | (with_reducible refine below_grow ?_ ?_ _ _) | omega | (simp; done) | (simp; omega)))
  have hz5 : W5.heap.size = w.heap.size + 3 := by rw [hW5]; simp
  have v2 : Var1 (w.heap.size + 1 + 1) W5 (.slice none 0 0) := ⟨by omega, by rw [hW5]; simp [go_sem], by rw [hW5]; simp [go_sem]⟩
  have hM : ∀ k, Mem1 (w.heap.size + 1 + 1) k → w.heap.size ≤ k ∧ k < W5.heap.size := fun k hk => by have : k = w.heap.size + 1 + 1 := hk; omega
  have cr := c_routes (Mem1 (w.heap.size + 1 + 1)) w.heap.size 83 _ mostI (MostS w.heap.size (w.heap.size + 1 + 1)) s a b c x y t q adl cpl ws W5 [] hs (H.at hB5) hok HFar.out (by omega) hM
    (fun g hg => looks_most w.heap.size _ ws.length g hg) (fun g w' hb hg => ⟨_, v2.below hb, ⟨.inl ⟨none, 0, rfl, rfl, Nat.zero_le _⟩, fun b hb => by simp [Value.ownBlock] at hb⟩, fun b hb => by simp [Value.ownBlock] at hb⟩)
  have hB0 : ∀ w', Kept (Mem1 (w.heap.size + 1 + 1)) W5 w' → Below w.heap.size w w' := fun w' hk => hB5.trans (hk.below hB5.size fun k h => (hM k h).1)
  clear hW5 v2 hM hB5
  change Calls _ _ _ _ fun e w' => RoutesR _ _ _ _ (mwC s a b c x y ws t q) (mwA a b x y ws t q).ans e at cr
  by_cases h0 : mwC s a b c x y ws t q = 0
  · have HV := hid (show mwL s a b c x y ws t q = (mwA a b x y ws t q).ans by rw [mwL, if_pos h0])
    have H0 := hid h0
    rw [h0] at cr
    clear h0
    refine cr.mono ?_
    rintro e w5 ⟨rfl, hK, hR⟩
    obtain ⟨g, v, ⟨k4, k5, k6⟩, k3, -⟩ := hR rfl
    have hB := hB0 _ hK
    have K3 := hid k3
    clear k3 hR
    go_wp2
    go_ret2
    rw [HV.out, H0.out]
    exact slO_orderCode hB K3.out
  · have hne : (mwC s a b c x y ws t q != 0) = true := by simpa using h0
    have HV := hid (show mwL s a b c x y ws t q = [] by rw [mwL, if_neg h0])
    clear h0
    refine cr.mono ?_
    rintro e w5 ⟨rfl, hK, -⟩
    have hB := hB0 _ hK
    go_wp2
    go_ret2
    exact orderCode_none hB HV.out
end Go.Proofs.Ytmolcfagmiecjaa
