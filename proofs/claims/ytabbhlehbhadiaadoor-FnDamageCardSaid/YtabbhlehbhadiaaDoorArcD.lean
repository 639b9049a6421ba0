/- DamagedItems, the program's side. -/
import Derived.Test.YtabbhlehbhadiaaDoorArcC
namespace Go.Proofs.YtabbhlehbhadiaaDoor
open Go.RowKit Go.Sort
set_option linter.unusedVariables false
set_option maxRecDepth 100000

theorem info_I64d : (Tryd.prog.info? 2).map (fun i => (i.zero, i.size, i.bytes)) = some (some (.int .i64 0), 1, 8) := by kernel_rfl
structure DamS (w0 : World) (bo bi : Nat) (k : Nat) (w : World) (x : List Int × Nat) : Prop where
  v : ∃ v, Bk w bo 52 [v] ∧ Acc w0 w0.heap.size 2 1 encI w v x.1 ∧ v.ownBlock ≠ some bo ∧ v.ownBlock ≠ some bi
  i : Bk w bi 2 [.int .i64 x.2]
  low : w0.heap.size ≤ bo ∧ w0.heap.size ≤ bi ∧ bo ≠ bi
  len : x.1.length ≤ k ∧ x.2 ≤ k
theorem DamS.stay {w0 : World} {bo bi k : Nat} {w w' : World} {x : List Int × Nat} (h : DamS w0 bo bi k w x) (hb : Below w.heap.size w w') : DamS w0 bo bi k w' x := by
  obtain ⟨⟨v, h1, h2, h3⟩, h4, h5, h6⟩ := h
  exact ⟨⟨v, h1.below hb, h2.below hb, h3⟩, h4.below hb, h5, h6⟩
theorem DamS.old {w0 : World} {bo bi k : Nat} {w : World} {x : List Int × Nat} (h : DamS w0 bo bi k w x) : Below w0.heap.size w0 w := by
  obtain ⟨⟨v, h1, h2, h3⟩, h4, h5, h6⟩ := h
  exact h2.keep
def TookD (w0 : World) (bo bi k : Nat) (v : Value) (w1 : World) (x' : List Int × Nat) (en : Ending) (w' : World) : Prop :=
  en = .returned (.int .i64 0) ∧ DamS w0 bo bi (k + 1) w' x' ∧ w1.heap.size ≤ w'.heap.size ∧ ∀ X, X < w1.heap.size → X ≠ bo → X ≠ bi → v.ownBlock ≠ some X → w'.heap[X]? = w1.heap[X]?
theorem tookD_same {w0 : World} {bo bi k : Nat} {v : Value} {w1 w2 : World} {xs : List Int} {n : Nat} (h1 : Bk w1 bo 52 [v]) (h2 : Acc w0 w0.heap.size 2 1 encI w1 v xs) (h3 : v.ownBlock ≠ some bo) (h4 : v.ownBlock ≠ some bi) (hi : Bk w1 bi 2 [.int .i64 n])
    (hlow : w0.heap.size ≤ bo ∧ w0.heap.size ≤ bi ∧ bo ≠ bi) (hl : xs.length ≤ k ∧ n ≤ k) (hb : Below (w1.setCell ⟨bi, 0, none⟩ (.int .i64 ((n : Int) + 1))).heap.size (w1.setCell ⟨bi, 0, none⟩ (.int .i64 ((n : Int) + 1))) w2) : TookD w0 bo bi k v w1 (xs, n + 1) (.returned (.int .i64 0)) w2 := by
  obtain ⟨l1, l2, l3⟩ := hlow
  have hs := hb.size
  have hD : DamS w0 bo bi (k + 1) (w1.setCell ⟨bi, 0, none⟩ (.int .i64 ((n : Int) + 1))) (xs, n + 1) := ⟨⟨v, h1.other (fun e => l3 e.symm) _, h2.setOther _ _ (fun b hb' e => h4 (by rw [hb', e])) l2, h3, h4⟩, hi.set 0 _, ⟨l1, l2, l3⟩, by simp only; omega⟩
  rw [size_put] at hs
  refine ⟨rfl, hD.stay hb, hs, fun X hX hne hni hnv => ?_⟩
  rw [hb.block X (by rw [size_put]; exact hX), Below.heap_setCell w1 ⟨bi, 0, none⟩ _ X hni]
theorem tookD_push {w0 : World} {bo bi k : Nat} {v v' : Value} {w1 wA w5 : World} {xs : List Int} {n : Nat} {T' : TypeId} {cs : Array Value} (h1 : Bk w1 bo 52 [v]) (h3 : v.ownBlock ≠ some bo) (h4 : v.ownBlock ≠ some bi) (hi : Bk w1 bi 2 [.int .i64 n])
    (hlow : w0.heap.size ≤ bo ∧ w0.heap.size ≤ bi ∧ bo ≠ bi) (hl : xs.length ≤ k + 1 ∧ n ≤ k) (hb : Below w1.heap.size w1 wA) (hA : Acc w0 w0.heap.size 2 1 encI w5 v' xs) (hg : (wA.alloc (.cells cs T')).grownBy w5 v.ownBlock) (hx : v'.ownBlock = v.ownBlock ∨ v'.ownBlock = some (wA.heap.size + 1)) :
    TookD w0 bo bi k v w1 (xs, n + 1) (.returned (.int .i64 0)) ((w5.setCell ⟨bo, 0, none⟩ v').setCell ⟨bi, 0, none⟩ (.int .i64 ((n : Int) + 1))) := by
  obtain ⟨l1, l2, l3⟩ := hlow
  have t := tookP_push (T := 52) h1 h3 l1 hb hA hg hx (c := 0) rfl
  obtain ⟨-, ⟨v2, q1, q2, q3⟩, q4, q5⟩ := t
  have hs := hb.size
  have hgs := hg.size
  rw [World.size_alloc] at hgs
  have hib := hi.lt
  have hown : v'.ownBlock ≠ some bo ∧ v'.ownBlock ≠ some bi := by
    refine ⟨fun e => ?_, fun e => ?_⟩
    · rcases hx with h | h
      · exact h3 (h ▸ e)
      · rw [h] at e; injection e with e; have := h1.lt; omega
    · rcases hx with h | h
      · exact h4 (h ▸ e)
      · rw [h] at e; injection e with e; omega
  have hiw : Bk (w5.setCell ⟨bo, 0, none⟩ v') bi 2 [.int .i64 n] := (tk_bk (hi.below hb) h4 hg).other l3 _
  have h15 : Bk w5 bo 52 [v] := tk_bk (h1.below hb) h3 hg
  refine ⟨rfl, ⟨⟨v', (h15.set 0 v').other (fun e => l3 e.symm) _, (hA.setOther ⟨bo, 0, none⟩ v' (fun b hb' e => hown.1 (by rw [hb', e])) l1).setOther _ _ (fun b hb' e => hown.2 (by rw [hb', e])) l2, hown.1, hown.2⟩, hiw.set 0 _, ⟨l1, l2, l3⟩, by simp only; omega⟩, by rw [size_put]; exact q4, fun X hX hne hni hnv => ?_⟩
  rw [Below.heap_setCell _ ⟨bi, 0, none⟩ _ X hni]
  exact q5 X hX hne hnv
def IntsP (xs : List Int) (c : Int) (w : World) (e : Ending) (w' : World) : Prop := ∃ v, e = .returned (.tuple #[v, .int .i64 c]) ∧ Below w.heap.size w w' ∧ SlO w' w.heap.size 1 encI v xs
theorem intsP_none {xs : List Int} {c : Int} {w w' : World} (h : Below w.heap.size w w') (ho : xs = []) : IntsP xs c w (.returned (.tuple #[.slice none 0 0, .int .i64 c])) w' := by
  subst ho; exact ⟨_, rfl, h, .inl ⟨none, 0, rfl, rfl, Nat.zero_le _⟩, fun g hg => by simp [Value.ownBlock] at hg⟩
theorem intsP_some {xs : List Int} {c : Int} {w w' : World} {v : Value} (h : Below w.heap.size w w') (hS : SlO w' w.heap.size 1 encI v xs) (hc : c = 0) : IntsP xs c w (.returned (.tuple #[v, .int .i64 0])) w' := by
  subst hc; exact ⟨v, rfl, h, hS⟩
theorem damS_new (w : World) {W : World} (hW : W = ((w.alloc (.cells #[] 2)).alloc (.cells #[.slice (some ⟨w.heap.size, 0, none⟩) 0 0] 52)).alloc (.cells #[.int .i64 0] 2)) : DamS w (w.heap.size + 1) (w.heap.size + 1 + 1) 0 W ([], 0) := by
  obtain ⟨W1, hW1⟩ : ∃ z, z = (w.alloc (.cells #[] 2)).alloc (.cells #[.slice (some ⟨w.heap.size, 0, none⟩) 0 0] 52) := ⟨_, rfl⟩
  have hz1 : W1.heap.size = w.heap.size + 1 + 1 := by rw [hW1]; simp
  obtain ⟨⟨v, h1, h2, h3⟩, h4, h5⟩ := listS_new (α := Int) (n := 1) (enc := encI) w hW1
  rw [← hW1] at hW
  have e1 : v = .slice (some ⟨w.heap.size, 0, none⟩) 0 0 := by
    have hk : Bk W1 (w.heap.size + 1) 52 [.slice (some ⟨w.heap.size, 0, none⟩) 0 0] := by rw [hW1]; exact Bk.new1 (by simp)
    have := (h1.cell 0 rfl).symm.trans (hk.cell 0 rfl)
    injection this
  subst hW
  refine ⟨⟨v, h1.alloc _, h2.below ((Below.refl _ _).alloc (Nat.le_refl _) _), h3, by rw [e1]; simp [Value.ownBlock]; omega⟩, Bk.new1 (by omega), ⟨by omega, by omega, by omega⟩, by simp⟩
end Go.Proofs.YtabbhlehbhadiaaDoor
