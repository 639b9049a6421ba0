/- The program's warning put into a list: the copy, slices.Insert. -/
import Derived.Test.YtajlllpjgeoliaaWarnS
namespace Go.Proofs.Ytajlllpjgeoliaa
open Go.RowKit Go.Sort
set_option linter.unusedVariables false
set_option maxRecDepth 100000

/-- append of a list where there is room: the value keeps its block and its capacity -/
theorem wpList_fitsAll {α : Type} {P : Program} {ops : Array Oper} {rest : List Oper} {o : Oper} {a : Act} {Q : Exit → Act → World → Prop} (hgd : o.guard = none) (s x : Operand) (t : TypeId)
    (ho : o.op = .call { callee := .builtin .append, args := #[s, x], argTypes := #[t, t] })
    {e : TypeId} {n : Nat} {enc : α → List Value} (i : TypeInfo) (ht : P.underlying t = some (.slice e)) (hi : P.info? e = some i) (hsize : i.size = n) (hsz : 0 < n) (hn : ∀ y, (enc y).length = n)
    {w : World} {base g k cap : Nat} {cs : List Value} {u : Value} {ys : List α} (hs : a.eval s = .slice (some ⟨g, 0, none⟩) k cap) (hown : w.ownsRow base e n (.slice (some ⟨g, 0, none⟩) k cap) k cs)
    {lo : Nat} (hx : a.eval x = u) (hS : SlA w lo n enc u ys) (h1 : ∀ y, ∀ u ∈ enc y, u.oneCell' = true) (hroom : k + ys.length ≤ cap)
    (h : ∀ w', w'.ownsRow base e n (.slice (some ⟨g, 0, none⟩) (k + ys.length) cap) (k + ys.length) (cs ++ ys.flatMap enc) → (w.grownBy w' (some g) ∨ w' = w) → wpList P ops Q rest (a.put o.dst (.slice (some ⟨g, 0, none⟩) (k + ys.length) cap)) w') : wpList P ops Q (o :: rest) a w := by
  rcases hS with ⟨ad, c, rfl, rfl, _⟩ | ⟨b, off, c, rfl, hp, hc, hm, _, hb, hcell⟩
  · refine wpList_plain hgd fun K hK => ?_
    have hr := run_append_own_zero (P := P) (w := w) base t o.type e i n ht hi _ _ _ hown ad c
    unfold Oper.wp execOp
    simp only [ho, resolve, invoke, builtin, Sem.run_bind, Sem.run_pure, Result.andThen_ok, List.map_toArray, List.map_cons, List.map_nil, hs, hx, hr]
    exact hK _ _ (h w (by simpa using hown) (.inr rfl))
  · refine wpList_append_fits w hgd s x t ho base e i n ht hi hsize g k cap cs hs hown ⟨b, off, none⟩ ys.length c (ys.flatMap enc) hx (flat_len enc hn ys) ?_ ?_ hroom fun w' h2 h3 => h w' h2 (.inl h3)
    · intro j q hj
      have hjl : j < ys.length * n := by rw [← flat_len enc hn ys]; exact (List.getElem?_eq_some_iff.1 hj).1
      have hd : j / n < ys.length := Nat.div_lt_of_lt_mul (by rw [Nat.mul_comm]; exact hjl)
      have hc1 := hcell (j / n) hd (j % n) (Nat.mod_lt _ hsz)
      have hf := flat_get enc hn ys (j / n) hd (j % n) (Nat.mod_lt _ hsz)
      rw [Nat.div_add_mod'] at hf
      rw [Nat.add_assoc, Nat.div_add_mod', ← hf] at hc1
      rw [Addr.add_lit, hc1]; simp [List.getD_eq_getElem?_getD, hj]
    · intro q hq
      obtain ⟨y, _, hy⟩ := List.mem_flatMap.1 hq
      exact h1 y q hy
/-- a copy whose room is its length -/
def CloneW (e : TypeId) (xs : List WarningD) (w : World) (en : Ending) (w' : World) : Prop :=
  en = .returned (.slice (some ⟨w.heap.size, 0, none⟩) xs.length xs.length) ∧ Below w.heap.size w w' ∧ w'.ownsRow w.heap.size e 8 (.slice (some ⟨w.heap.size, 0, none⟩) xs.length xs.length) xs.length (xs.flatMap encWarning)
theorem c_clone_warning (v : Value) (xs : List WarningD) (w : World) (h : SlA w 0 8 encWarning v xs) (hl : xs.length ≤ 1048576) :
    Calls Try.prog 36 #[v] w (CloneW 35 xs w) := by
  obtain ⟨i0, hi, iz0, iz1, iz2⟩ := info_parts info_Warning
  have h' := h
  obtain ⟨ad, cap, bk, off, rfl, hm, -, -⟩ := h.uni
  go_enter Try.func36, Try.ntmps36
  go_wp2_with (at_make; refine (wpList_make_own _ rfl _ _ 29 rfl w.heap.size 35 i0 _ 8 Try.underlying29 hi iz0 iz1 _ _ _ xs.length rfl rfl rfl (by rw [iz2]; omega) (by unfold maxLen; omega) (Nat.le_refl _) ?_))
  intro w1 hown hgr
  have HB : Below w.heap.size w w1 := (Below.refl _ _).grown hgr (Nat.le_refl _) (fun k hk => by cases hk)
  have hS : SlA w1 0 8 encWarning _ xs := h'.at HB
  go_wp2_with (at_builtin; refine wpList_fitsAll rfl (.tmp 5) (.tmp 6) 29 rfl i0 Try.underlying29 hi iz1 (by decide) (fun _ => rfl) rfl hown rfl hS one_encWarning (by omega) ?_; intro w2 hown2 hgr2)
  go_ret

  refine ⟨rfl, ?_, by simpa using hown2⟩
  rcases hgr2 with hg | rfl
  · exact HB.grown hg HB.size (fun k hk => by injection hk with hk; omega)
  · exact HB
def InsR (base i : Nat) (xs : List WarningD) (d : WarningD) (w : World) (en : Ending) (w' : World) : Prop := ∃ u, en = .returned u ∧ Below base w w' ∧ SlO w' base 8 encWarning u (xs.take i ++ [d] ++ xs.drop i)
set_option maxHeartbeats 1000000 in
/-- at the end: the list grows -/
theorem c_insert_end (base q : Nat) (xs : List WarningD) (d : WarningD) (w : World) (hb : base < w.heap.size) (hown : w.ownsRow base 35 8 (.slice (some ⟨base, 0, none⟩) xs.length xs.length) xs.length (xs.flatMap encWarning)) (hv : SlA w 0 8 encWarning (.slice (some ⟨q, 0, none⟩) 1 1) [d]) (hl : xs.length ≤ 1048576) :
    Calls Try.prog 35 #[.slice (some ⟨base, 0, none⟩) xs.length xs.length, .int .i64 xs.length, .slice (some ⟨q, 0, none⟩) 1 1] w (InsR base xs.length xs d w) := by
  obtain ⟨i0, hi, iz0, iz1, iz2⟩ := info_parts info_Warning
  have A0 : Acc w base 35 8 encWarning w (.slice (some ⟨base, 0, none⟩) xs.length xs.length) xs := ⟨hown, ⟨rfl, rfl, rfl, Nat.le_refl _, fun _ _ _ => rfl⟩, fun b hb' => .inl (own_at hb'), by omega⟩
  have HA := hid A0
  clear A0 hown
  go_enter Try.func35, Try.ntmps35
  go_wp2_with (at_builtin; refine wpList_pushAll rfl (.tmp 23) (.tmp 24) 29 rfl i0 _ 72 Try.underlying29 hi iz0 iz1 iz2 rfl (by decide) (fun _ => rfl) rfl HA.out rfl hv one_encWarning (by simp only [List.length_cons, List.length_nil]; (try unfold maxLen); omega) (by simp only [List.length_cons, List.length_nil]; omega) ?_; intro v3 w3 hA3)
  go_ret
  have hD := hA3.done (fun _ => rfl) (Below.refl base w) (Nat.le_refl _)
  exact ⟨_, rfl, hD.1, by simpa using hD.2⟩
/-- copy of elements of more than one cell, where the source is known cell by cell -/
theorem run_copy_sz {P : Program} (w : World) (dT sT ty elem : TypeId) (i : TypeInfo) (sz b o dLen dCap : Nat) (a : Addr) (sLen sCap : Nat) (cs : List Value)
    (hu : P.underlying dT = some (.slice elem)) (hi : P.info? elem = some i) (hs : i.size = sz) (hn : cs.length = Nat.min sLen dLen * sz)
    (hsrc : ∀ j v, cs[j]? = some v → w.cell? (a.add j) = some v) (hc : ∀ j, j < cs.length → (w.cell? ⟨b, o + j, none⟩).isSome = true) (hf : ∀ j, j < cs.length → w.frozen? ⟨b, o + j, none⟩ = false) (h1 : ∀ v ∈ cs, v.oneCell' = true) :
    (Builtin.copy_ #[dT, sT] ty #[.slice (some ⟨b, o, none⟩) dLen dCap, .slice (some a) sLen sCap]).run P w = .ok (goInt (Nat.min sLen dLen)) (w.setCells b o cs) := by
  have hl := run_loadCells_list (P := P) w a cs hsrc
  have hst := run_storeCells_cells (P := P) b o cs 0 w (by simpa using hc) (by simpa using hf) h1
  simp [Builtin.copy_, run_underlying hu, Builtin.lenOf, Builtin.firstCells, sizeOf, typeInfo, hi, hs, ← hn, hl, hst]
end Go.Proofs.Ytajlllpjgeoliaa
