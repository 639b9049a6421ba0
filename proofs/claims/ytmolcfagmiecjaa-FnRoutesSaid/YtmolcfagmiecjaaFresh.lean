/- A copy of a list to which one element more is added: a list that the call itself made. -/
import Derived.Test.YtmolcfagmiecjaaOwn
import Derived.Deep.RegionLaw
namespace Go.Proofs.Ytmolcfagmiecjaa
open Go.RowKit Go.Sort
set_option maxRecDepth 100000

/-- the list at u is xs, in memory made since w -/
def Fresh (e : TypeId) (w w' : World) (u : Value) (xs : List Int) : Prop := ∃ W1, Below w.heap.size w W1 ∧ Acc W1 w.heap.size e 1 encI w' u xs
theorem Fresh.below {e : TypeId} {w w' w'' : World} {u : Value} {xs : List Int} (h : Fresh e w w' u xs) (hb : Below w'.heap.size w' w'') : Fresh e w w'' u xs := by
  obtain ⟨W1, h1, h2⟩ := h; exact ⟨W1, h1, h2.below hb⟩
theorem Fresh.keep {e : TypeId} {w w' : World} {u : Value} {xs : List Int} (h : Fresh e w w' u xs) : Below w.heap.size w w' := by
  obtain ⟨W1, h1, h2⟩ := h; exact (h2.done (fun _ => rfl) h1 (Nat.le_refl _)).1
theorem Fresh.slo {e : TypeId} {w w' : World} {u : Value} {xs : List Int} (h : Fresh e w w' u xs) : SlO w' w.heap.size 1 encI u xs := by
  obtain ⟨W1, h1, h2⟩ := h; exact (h2.done (fun _ => rfl) h1 (Nat.le_refl _)).2
theorem Fresh.form {e : TypeId} {w w' : World} {u : Value} {xs : List Int} (h : Fresh e w w' u xs) : ∃ ad cap, u = .slice ad xs.length cap := h.slo.1.form
theorem wpList_fresh {P : Program} {ops : Array Oper} {rest : List Oper} {o : Oper} {a : Act} {Q : Exit → Act → World → Prop} (hgd : o.guard = none) (s x : Operand) (t : TypeId)
    (ho : o.op = .call { callee := .builtin .append, args := #[s, x], argTypes := #[t, t] }) {e : TypeId} (i : TypeInfo) (ht : P.underlying t = some (.slice e)) (hi : P.info? e = some i) (hz : i.zero = some (.int .i64 0)) (hsize : i.size = 1) (hby : i.bytes = 8)
    {w wA w0 : World} {v : Value} {xs : List Int} (y : Int) (hs : a.eval s = v) (hF : Fresh e w wA v xs) (hB : Below wA.heap.size wA w0) (T : TypeId) (c : Nat)
    (hx : a.eval x = .slice (some ⟨w0.heap.size, 0, none⟩) 1 c) (h63 : xs.length + 1 ≤ 1048577)
    (h : ∀ v' w', Below w.heap.size w w' → Fresh e w w' v' (xs ++ [y]) → wpList P ops Q rest (a.put o.dst v') w') : wpList P ops Q (o :: rest) a (w0.alloc (.cells #[.int .i64 y] T)) := by
  obtain ⟨W1, h1, h2⟩ := hF
  exact wpList_push (α := Int) hgd s x t ho i (.int .i64 0) 8 ht hi hz hsize hby rfl (by decide) (fun _ => rfl) y hs h2 hB T c hx (one_encI y) (by unfold maxLen; omega) (by omega)
    fun v' w' h3 => h v' w' (h3.done (fun _ => rfl) h1 (Nat.le_refl _)).1 ⟨W1, h1, h3⟩
theorem step_fresh {P : Program} {ops : Array Oper} {o : Oper} {a : Act} {K : Act → World → Prop} {Q : Exit → Act → World → Prop} {E : Prop} (hgd : o.guard = none) (s x : Operand) (t : TypeId)
    (ho : o.op = .call { callee := .builtin .append, args := #[s, x], argTypes := #[t, t] }) {e : TypeId} (i : TypeInfo) (ht : P.underlying t = some (.slice e)) (hi : P.info? e = some i) (hz : i.zero = some (.int .i64 0)) (hsize : i.size = 1) (hby : i.bytes = 8)
    {w wA w0 : World} {v : Value} {xs : List Int} (y : Int) (hs : a.eval s = v) (hF : Fresh e w wA v xs) (hB : Below wA.heap.size wA w0) (ad : Addr) (c : Nat)
    (hx : a.eval x = .slice (some ad) 1 c) (hc0 : w0.cell? ad = some (.int .i64 y)) (h63 : xs.length + 1 ≤ 1048577)
    (h : ∀ v' w', Below w.heap.size w w' → Fresh e w w' v' (xs ++ [y]) → K (a.put o.dst v') w') : if Region.wanted o (yielded ops a.tmps) = true then Oper.wp P o a w0 K Q else E := by
  have hw : Region.wanted o (yielded ops a.tmps) = true := by simp [Region.wanted, hgd]
  rw [if_pos hw]
  obtain ⟨W1, h1, h2⟩ := hF
  have hA1 : Acc W1 w.heap.size e 1 encI w0 v xs := h2.below hB
  obtain ⟨v', w', hrun, hown, hgr, _, hat⟩ := run_append_own_at (P := P) w0 w.heap.size t o.type e i (.int .i64 0) 1 8 ht hi hz hsize hby rfl (by decide) v xs.length _ hA1.own ad 1 c (encI y) rfl (fun j u hj => by
    cases j with
    | zero => simp [encI] at hj; subst hj; simpa [Addr.add] using hc0
    | succ j => simp [encI] at hj) (one_encI y) (by unfold maxLen; omega) (by omega) (Nat.le_trans hA1.low hA1.size)
  unfold Oper.wp
  simp [execOp, ho, resolve, invoke, builtin, hs, hx, hrun, Result.andThen]
  have h3 : Acc W1 w.heap.size e 1 encI w' v' (xs ++ [y]) := by
    refine ⟨?_, ?_, ?_, hA1.low⟩
    · rw [List.flatMap_append, List.length_append]; simpa using hown
    · refine ⟨hgr.os.trans hA1.fr.os, hgr.tape.trans hA1.fr.tape, hgr.output.trans hA1.fr.output, Nat.le_trans hA1.fr.size hgr.size, fun k hk hne => ?_⟩
      rw [hgr.block k (Nat.lt_of_lt_of_le hk hA1.size) (fun he => ?_)]
      · exact hA1.fr.block k hk hne
      · rcases hA1.blk k he.symm with e1 | e1
        · exact hne (by rw [e1])
        · omega
    · intro b hb
      rcases hat with hat | hat
      · exact hA1.blk b (hat ▸ hb)
      · rw [hat] at hb; injection hb with hb; right; rw [← hb]; exact hA1.size
  exact h v' w' (h3.done (fun _ => rfl) h1 (Nat.le_refl _)).1 ⟨W1, h1, h3⟩
theorem c_clone_fresh (v : Value) (xs : List Int) (w : World) (h : SlA w 0 1 encI v xs) (hl : xs.length ≤ 1048576) :
    Calls Try.prog 85 #[v] w fun e w' => ∃ u, e = .returned u ∧ Below w.heap.size w w' ∧ Fresh 2 w w' u xs := by
  obtain ⟨i0, hi, iz0, iz1, iz2⟩ := info_parts info_Int64
  have h' := h
  obtain ⟨ad, cap, bk, off, rfl, hm, -, -⟩ := h.uni
  go_enter Try.func85, Try.ntmps85
  go_wp2_with (at_make; refine (wpList_make_own _ rfl _ _ 29 rfl w.heap.size 2 i0 _ 1 Try.underlying29 hi iz0 iz1 _ _ _ xs.length rfl rfl rfl (by rw [iz2]; omega) (by unfold maxLen; omega) (Nat.le_refl _) ?_))
  intro w1 hown hgr
  have HB : Below w.heap.size w w1 := (Below.refl _ _).grown hgr (Nat.le_refl _) (fun k hk => by cases hk)
  have HA := hid (Acc.made hown (.inl rfl) HB.size encI)
  have hS : SlA w1 0 1 encI _ xs := h'.at HB
  clear hown hgr h'
  go_wp2_with (at_builtin; refine wpList_pushAll rfl (.tmp 5) (.tmp 6) 29 rfl i0 (.int .i64 0) 8 Try.underlying29 hi iz0 iz1 iz2 rfl (by decide) (fun _ => rfl) rfl HA.out rfl hS one_encI (by unfold maxLen; simp; omega) (by simp; omega) ?_; intro v1 w1 hA1)
  go_ret
  have := hA1.done (fun _ => rfl) HB (Nat.le_refl _)
  exact ⟨_, rfl, this.1, _, HB, by simpa using hA1⟩
end Go.Proofs.Ytmolcfagmiecjaa
