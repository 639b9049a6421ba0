/- A region that draws its order, walked while the world may grow at every step: what yields one and the same value in every grown world is taken first. -/
import Derived.Test.YtocpgnpdnoidnaaDoorBase
import Derived.OrdersHeld
namespace Go.Proofs.YtocpgnpdnoidnaaDoor
open Go.RowKit Go.Sort

/-- w' is w grown: no old block has turned -/
def Gr (w w' : World) : Prop := Below w.heap.size w w'
theorem gr_of {w w' : World} (h : Below w.heap.size w w') : Gr w w' := h
theorem Gr.out {w w' : World} (h : Gr w w') : Below w.heap.size w w' := h
theorem Gr.refl (w : World) : Gr w w := Below.refl _ _
theorem Gr.trans {a b c : World} (h : Gr a b) (k : Gr b c) : Gr a c := Below.trans h (Below.mono k h.size)
section
variable {P : Program} {ops : Array Oper} {Q : Exit → Act → World → Prop} {md : Region.Mode}

/-- whatever order comes, from here on, the world growing between any two operations -/
def AnyG (P : Program) (md : Region.Mode) (ops : Array Oper) (Q : Exit → Act → World → Prop) : Nat → Array Bool → Act → World → Prop
  | 0, listed, a, w => Region.ready md ops listed = [] ∧ Q .normal a w
  | fuel + 1, listed, a, w => (Region.ready md ops listed = [] → Q .normal a w) ∧
      ∀ i ∈ Region.ready md ops listed, wpOp P ops Q i (fun a' w' => Gr w w' ∧ ∀ w2, Gr w' w2 → AnyG P md ops Q fuel (listed.setIfInBounds i true) a' w2) a w
theorem any_of_G : ∀ (fuel : Nat) (listed : Array Bool) (a : Act) (w : World), AnyG P md ops Q fuel listed a w → wpAny P md ops Q fuel listed a w
  | 0, _, _, _, h => h
  | fuel + 1, _, _, _, h => ⟨h.1, fun i hi => wpOp_mono (fun a' w' h' => any_of_G fuel _ a' w' (h'.2 w' (Gr.refl _))) (h.2 i hi)⟩
def HG (P : Program) (md : Region.Mode) (ops : Array Oper) (Q : Exit → Act → World → Prop) (fuel : Nat) (listed : Array Bool) (a : Act) (w : World) : Prop := ∀ w', Gr w w' → AnyG P md ops Q fuel listed a w'

/-- what an operation leaves in one world: a value and that world; or a call that hands the value back and lets the world grow -/
def GrowUpon (P : Program) (w : World) (v : Value) : Result Next → Prop
  | .ok (.value u) w' => w' = w ∧ u = v
  | .ok .skip w' => w' = w ∧ v = undef
  | .ok (.enter f args) w' => w' = w ∧ Calls P f args w (fun e w'' => e = .returned v ∧ Gr w w'')
  | _ => False
/-- one and the same value, in every grown world -/
def YieldsG (P : Program) (ops : Array Oper) (o : Oper) (v : Value) (a : Act) (w : World) : Prop :=
  (Region.wanted o (yielded ops a.tmps) = true ∧ ∀ w', Gr w w' → GrowUpon P w' v ((execOp a.eval o).run P w')) ∨ (Region.wanted o (yielded ops a.tmps) = false ∧ v = undef)
theorem YieldsG.grown {o : Oper} {v : Value} {a : Act} {w w2 : World} (h : YieldsG P ops o v a w) (hg : Gr w w2) : YieldsG P ops o v a w2 :=
  h.imp (fun ⟨h1, h2⟩ => ⟨h1, fun w' hw' => h2 w' (hg.trans hw')⟩) id
theorem YieldsG.moved {o : Oper} {v : Value} {a a' : Act} {w : World} (h : YieldsG P ops o v a w) (he : execOp a'.eval o = execOp a.eval o) (hw : Region.wanted o (yielded ops a'.tmps) = Region.wanted o (yielded ops a.tmps)) : YieldsG P ops o v a' w := by
  unfold YieldsG
  rw [he, hw]; exact h
theorem YieldsG.op {i : Nat} {o : Oper} {v : Value} {a : Act} {w w' : World} (hi : ops[i]? = some o) (hy : YieldsG P ops o v a w) (hw : Gr w w') {K : Act → World → Prop} (h : ∀ w2, Gr w' w2 → K (a.put o.dst v) w2) : wpOp P ops Q i K a w' := by
  unfold wpOp
  simp only [hi]
  rcases hy with ⟨h1, h2⟩ | ⟨h1, rfl⟩
  · rw [if_pos h1]
    refine .inl ?_
    have h3 := h2 w' hw
    unfold Oper.wp
    generalize (execOp a.eval o).run P w' = r at h3
    match r, h3 with
    | .ok (.value u) w3, h3 => obtain ⟨rfl, rfl⟩ := h3; exact h _ (Gr.refl _)
    | .ok .skip w3, h3 => obtain ⟨rfl, rfl⟩ := h3; exact h _ (Gr.refl _)
    | .ok (.enter f args) w3, h3 =>
      obtain ⟨rfl, hc⟩ := h3
      refine Calls.mono hc fun e w4 ⟨he, hg⟩ => ?_
      subst he
      exact h _ hg
  · rw [if_neg (by rw [h1]; exact Bool.false_ne_true)]
    exact h _ (Gr.refl _)

/-- an operation apart from another: the other's value in its slot makes no difference -/
theorem op_put {j : Nat} {oi oj : Oper} {v : Value} {a : Act} {w w' : World} (hj : ops[j]? = some oj) (hap : oi.apart ops oj = true) (hsi : ∀ cs b, oi.op ≠ .select cs b) (hsj : ∀ cs b, oj.op ≠ .select cs b)
    (hQ : ∀ c a w, Q (.panic c) (a.put oi.dst v) w → Q (.panic c) a w) {K : Act → World → Prop} (hy : YieldsG P ops oi v a w) (h : wpOp P ops Q j K (a.put oi.dst v) w') :
    wpOp P ops Q j (fun a' w2 => YieldsG P ops oi v a' w ∧ K (a'.put oi.dst v) w2) a w' := by
  obtain ⟨h1, h2, h3⟩ := Oper.apart_spec hap
  have kv : ∀ u, YieldsG P ops oi v (a.put oj.dst u) w := fun u => hy.moved (execOp_put oi hsi a oj.dst u h3) (wanted_put oi a oj.dst u h3)
  have cm : ∀ u, (a.put oi.dst v).put oj.dst u = (a.put oj.dst u).put oi.dst v := fun u => Act.put_comm a v u h2
  unfold wpOp at h ⊢
  simp only [hj] at h ⊢
  rw [wanted_put oj a oi.dst v h1] at h
  by_cases hw : Region.wanted oj (yielded ops a.tmps) = true
  · rw [if_pos hw] at h ⊢
    have hx := execOp_put oj hsj a oi.dst v h1
    rcases h with h | ⟨ha, hl⟩
    · refine .inl ?_
      unfold Oper.wp at h ⊢
      rw [hx] at h
      cases hr : (execOp a.eval oj).run P w' with
      | halt x w2 =>
        rw [hr] at h
        cases x with
        | panic u => exact hQ _ _ _ h
        | _ => exact h.elim
      | ok n w2 =>
        rw [hr] at h
        cases n with
        | value u => exact ⟨kv u, by rw [← cm]; exact h⟩
        | skip => exact ⟨kv undef, by rw [← cm]; exact h⟩
        | defer d =>
          have hyd : YieldsG P ops oi v { a with defers := d :: a.defers } w := hy.moved rfl rfl
          refine ⟨hyd.moved (execOp_put oi hsi _ oj.dst undef h3) (wanted_put oi _ oj.dst undef h3), ?_⟩
          have := Act.put_comm { a with defers := d :: a.defers } v undef h2
          rw [← this, ← Act.put_defers]; exact h
        | enter f args =>
          refine Calls.mono h fun e w3 he => ?_
          cases e with
          | returned u => exact ⟨kv u, by rw [← cm]; exact he⟩
          | panicked c => exact hQ _ _ _ he
          | outgrown => exact he
        | row r args => exact Rows.mono h fun u w3 he => ⟨kv u, by rw [← cm]; exact he⟩
        | _ => exact h.elim
    · refine .inr ⟨?_, hl⟩
      unfold Oper.asks at ha ⊢
      rw [hx] at ha; exact ha
  · rw [if_neg hw] at h ⊢
    exact ⟨kv undef, by rw [← cm]; exact h⟩
theorem hg_first {i : Nat} {oi : Oper} {v : Value} (hi : ops[i]? = some oi) (hs : Region.noSelect ops = true) (hQ : ∀ c a w, Q (.panic c) (a.put oi.dst v) w → Q (.panic c) a w) :
    ∀ (fuel : Nat) (listed : Array Bool) (a : Act) (w : World),
      (∀ j oj, ops[j]? = some oj → j ≠ i → listed.getD j true = false → (∀ e ∈ oj.after, Region.binds md e = true → e.on ≠ i) → oi.apart ops oj = true) →
      i ∈ Region.ready md ops listed → YieldsG P ops oi v a w → HG P md ops Q fuel (listed.setIfInBounds i true) (a.put oi.dst v) w → HG P md ops Q (fuel + 1) listed a w := by
  intro fuel
  induction fuel with
  | zero =>
    intro listed a w hfree hr hy H w' hw'
    refine ⟨fun h => absurd hr (by rw [h]; simp), fun j hj => ?_⟩
    by_cases hji : j = i
    · subst hji
      exact hy.op hi hw' fun w2 h2 => ⟨h2, fun w3 h3 => H w3 (hw'.trans (h2.trans h3))⟩
    · have h1 := ready_mono hj hji
      rw [(H w' hw').1] at h1; cases h1
  | succ fuel ih =>
    intro listed a w hfree hr hy H w' hw'
    refine ⟨fun h => absurd hr (by rw [h]; simp), fun j hj => ?_⟩
    by_cases hji : j = i
    · subst hji
      exact hy.op hi hw' fun w2 h2 => ⟨h2, fun w3 h3 => H w3 (hw'.trans (h2.trans h3))⟩
    · have h1 := (H w' hw').2 j (ready_mono hj hji)
      obtain ⟨hun, oj, hoj, hall⟩ := mem_ready.1 hj
      have hilt : listed.getD i true = false := (mem_ready.1 hr).1
      have hno : ∀ e ∈ oj.after, Region.binds md e = true → e.on ≠ i := fun e he hb heq => by
        have h2 := hall e he hb
        rw [heq] at h2
        by_cases hsz : i < listed.size
        · simp [hsz] at h2 hilt; rw [hilt] at h2; cases h2
        · simp [Array.getElem?_eq_none (Nat.le_of_not_lt hsz)] at h2
      have h2 := op_put hoj (hfree j oj hoj hji hun hno) (Region.noSelect_spec hs i oi · · hi) (Region.noSelect_spec hs j oj · · hoj) hQ hy h1
      refine wpOp_mono (fun a' w2 h3 => ⟨h3.2.1, fun w3 h4 => ?_⟩) h2
      refine ih (listed.setIfInBounds j true) a' w2 (fun k ok hk hki hu hn => ?_) (ready_mono hr (Ne.symm hji)) (h3.1.grown (hw'.trans h3.2.1)) (fun w4 h5 => ?_) w3 h4
      · refine hfree k ok hk hki ?_ hn
        by_cases hjk : j = k
        · subst hjk; exact hun
        · rw [getD_set_ne true hjk] at hu; exact hu
      · rw [Array.setIfInBounds_comm _ _ hji]
        exact h3.2.2 w4 h5
/-- number i is taken first -/
theorem hg_take {i : Nat} {oi : Oper} {v : Value} {fuel : Nat} {listed : Array Bool} {a : Act} {w : World} (hi : ops[i]? = some oi) (hs : Region.noSelect ops = true) (hf : Region.free md ops listed i = true) (hr : (Region.ready md ops listed).contains i = true)
    (hQ : ∀ c a w, Q (.panic c) (a.put oi.dst v) w → Q (.panic c) a w) (hy : YieldsG P ops oi v a w) (h : HG P md ops Q fuel (listed.setIfInBounds i true) (a.put oi.dst v) w) : HG P md ops Q (fuel + 1) listed a w :=
  hg_first hi hs hQ fuel listed a w (Region.free_spec hi hf) (by simpa using hr) hy h
theorem yg_val {o : Oper} {v : Value} {a : Act} {w : World} (hw : Region.wanted o (yielded ops a.tmps) = true) (h : ∀ w', Gr w w' → (execOp a.eval o).run P w' = .ok (.value v) w') : YieldsG P ops o v a w :=
  .inl ⟨hw, fun w' hw' => by rw [h w' hw']; exact ⟨rfl, rfl⟩⟩
theorem yg_call {o : Oper} {v : Value} {a : Act} {w : World} {f : FuncId} {args : Array Value} (hw : Region.wanted o (yielded ops a.tmps) = true) (h : ∀ w', (execOp a.eval o).run P w' = .ok (.enter f args) w')
    (hc : ∀ w', Gr w w' → Calls P f args w' fun e w'' => e = .returned v ∧ Below w'.heap.size w' w'') : YieldsG P ops o v a w :=
  .inl ⟨hw, fun w' hw' => by rw [h w']; exact ⟨rfl, hc w' hw'⟩⟩
/-- one alone may come up -/
theorem hg_one {i : Nat} {oi : Oper} {fuel : Nat} {listed : Array Bool} {a : Act} {w : World} (hi : ops[i]? = some oi) (hr : Region.ready md ops listed = [i]) (hw : Region.wanted oi (yielded ops a.tmps) = true)
    (h : ∀ w', Gr w w' → ∀ K : Act → World → Prop, (∀ a' w2, Gr w' w2 → HG P md ops Q fuel (listed.setIfInBounds i true) a' w2 → K a' w2) → oi.wp P a w' K Q) : HG P md ops Q (fuel + 1) listed a w := fun w' hw' => by
  refine ⟨fun h0 => (by rw [hr] at h0; cases h0), fun j hj => ?_⟩
  rw [hr, List.mem_singleton] at hj
  subst hj
  unfold wpOp
  simp only [hi]
  rw [if_pos hw]
  exact .inl (h w' hw' _ fun a' w2 h2 h3 => ⟨h2, h3⟩)
theorem hg_done {fuel : Nat} {listed : Array Bool} {a : Act} {w : World} (hr : Region.ready md ops listed = []) (h : ∀ w', Gr w w' → Q .normal a w') : HG P md ops Q fuel listed a w := fun w' hw' => by
  cases fuel with
  | zero => exact ⟨hr, h w' hw'⟩
  | succ n => exact ⟨fun _ => h w' hw', by rw [hr]; simp⟩
theorem hg_region {id : Nat} {a : Act} {w : World} {l : List Oper} (n : Nat) (hn : l.toArray.size = n) (hm : P.follows .mixedOrders = true) (h : HG P .any l.toArray Q n (Array.replicate n false) a w) : (Code.region id l.toArray true).wp P Q a w := by
  subst hn
  exact wp_region_any hm (any_of_G _ _ _ _ (h _ (gr_of (Below.drew (Below.refl _ _)))))
end
end Go.Proofs.YtocpgnpdnoidnaaDoor
