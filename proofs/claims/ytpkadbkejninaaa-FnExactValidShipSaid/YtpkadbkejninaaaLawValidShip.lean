/- 'ValidShip' of the program answers as the reference's, for every ship. No condition. -/
import Derived.Test.YtpkadbkejninaaaShip
import Derived.Test.YtpkadbkejninaaaOpen
namespace Go.Proofs.Ytpkadbkejninaaa.lawValidShip
open Go.ChangeShapes Go.WideShapes Go.ChangeAt Go.RowKit
set_option linter.unusedVariables false

theorem own : ownKnob Try.prog.godebug = none := by kernel_rfl
theorem laidOut : laidOutB Try.prog = true := by kernel_rfl

theorem cells_string : Try.prog.cellsOf 9 = 1 := by kernel_rfl
theorem cells_int64 : Try.prog.cellsOf 2 = 1 := by kernel_rfl
theorem cells_Ship : Try.prog.cellsOf 23 = 4 := by kernel_rfl

set_option maxRecDepth 100000 in
theorem rds_Ship {w : World} {cs : List Value} (h : Rds Try.prog w 23 cs) : ∃ (s : ByteArray) (a b c : Int), cs = [.string s, .int .i64 a, .int .i64 b, .int .i64 c] ∧ s.size ≤ maxLen := by
  obtain ⟨hl, hf⟩ := Rds.st Try.underlying23 h
  rw [cells_Ship] at hl
  have e : ∃ c0 c1 c2 c3, cs = [c0, c1, c2, c3] := by
    match cs, hl with
    | [c0, c1, c2, c3], _ => exact ⟨c0, c1, c2, c3, rfl⟩
  obtain ⟨c0, c1, c2, c3, rfl⟩ := e
  simp only [List.mem_cons, List.not_mem_nil, or_false, forall_eq_or_imp, forall_eq, cells_string, cells_int64] at hf
  obtain ⟨h0, h1, h2, h3⟩ := hf
  obtain ⟨s, e0, hs⟩ := Rds.str Try.underlying9 h0
  obtain ⟨x1, e1, w1⟩ := Rds.int Try.underlying2 h1
  obtain ⟨x2, e2, w2⟩ := Rds.int Try.underlying2 h2
  obtain ⟨x3, e3, w3⟩ := Rds.int Try.underlying2 h3
  simp at e0 e1 e2 e3
  subst e0 e1 e2 e3
  exact ⟨s, x1, x2, x3, rfl, hs⟩

set_option maxRecDepth 100000 in
theorem open0 {H : Type} {enc : TypeId × Value → H} {W : World} {base : Nat} {v : Value} {d : DataW H} {p : List MemPlace} (hv : Value.okWide Try.prog W .any base 23 v) (h : DataW.Trod enc Try.prog W 0 (fun _ => true) true 23 v d p) :
    ∃ (s : ByteArray) (a b c : Int), v = .agg #[.string s, .int .i64 a, .int .i64 b, .int .i64 c] ∧ s.size ≤ maxLen := by
  obtain ⟨⟨l⟩, rfl, hsz⟩ := okWide_struct Try.underlying23 hv
  obtain ⟨s, a, b, c, e, hs⟩ := rds_Ship (rds_arg h)
  exact ⟨s, a, b, c, congrArg (fun l => Value.agg ⟨l⟩) e, hs⟩

set_option maxRecDepth 100000 in
theorem lifted (os : Os) (started : os.Started) (H : Type) (enc : TypeId × Value → H) :
    ReturnsInHanded {} Try.checked os 3 .any (Rows.fnExactValidShipSpec.pre6 enc Try.prog Try.f3 Rows.fnExactValidShipRow.domain false) (Rows.fnExactValidShipSpec.post enc Try.prog Try.f3 false true false false) := by
  refine returnsInHanded_of_change (C := Try.checked) own started (by kernel_rfl) Try.func3
    (ChangeSpec.witness6 (enc := enc) (C := Try.checked) false ⟨#[], #[.agg #[.string ⟨#[]⟩, .int .i64 0, .int .i64 0, .int .i64 0]], []⟩ 8 (by kernel_rfl) (by kernel_rfl) (by kernel_rfl) (by kernel_rfl)) ?_
  intro W base args ds gs before hval0 hW hcnd _
  have hval : ∀ (j : Nat) t v, Try.f3.params[j]? = some t → args[j]? = some v → Value.okWide Try.prog W .any base t v := hval0
  have hW' := hW
  obtain ⟨p, q, hA0, hV, rfl, hfz, hnd⟩ := hW
  have hA : DataW.TrodAll enc Try.prog W 0 (fun _ => true) true Try.f3.params.toList args.toList ds p := hA0
  rw [Try.params3] at hA hval
  obtain ⟨v0, vs0, d0, ds0, p0, q0, hargs, rfl, rfl, h0, r0⟩ := trodAll_cons hA
  obtain ⟨rfl, rfl, rfl⟩ := trodAll_nil r0
  obtain rfl : args = #[v0] := by cases args; simp_all
  obtain ⟨rfl, rfl⟩ := trodVars_none hV
  have k0 := h0
  have lt0 : ∀ x ∈ p0, x.block < W.heap.size := by obtain ⟨m, hm⟩ := k0; exact DataW.trod_lt m _ _ _ hm
  obtain ⟨s, a, b, c, rfl, hs⟩ := open0 (hval 0 23 v0 rfl rfl) h0
  clear hA0 hval0
  refine (law_ValidShip s a b c W hs).mono fun e W' ⟨he, bel⟩ => ?_
  subst he
  exact ⟨_, rfl, _, _, _, [], _, [], hW', trodAll_mk1 (shut_bool Try.underlying4 _), (trodAll_cons_mk (Below.trod laidOut (by kernel_rfl) (of_decide_eq_true (by kernel_rfl)) k0 bel lt0) trodAll_mk0), rfl, bel.frame _, fun h => by cases h⟩

theorem proved : Rows.FnExactValidShipSaid :=
  OpenClaim.holds_of_wide 3 Try.f3 rfl rfl rfl rfl rfl rfl rfl ⟨rfl, rfl, rfl, rfl, rfl⟩ rfl rfl rfl rfl rfl (by kernel_rfl) Try.func3 (by kernel_rfl)
    (of_decide_eq_true (by kernel_rfl)) (by unfold Func.isWrapper; first | (rw [if_pos (by decide +kernel)]; kernel_rfl) | (rw [if_neg (by decide +kernel)]; exact ⟨rfl, rfl⟩))
    (fun os started H enc _ => lifted os started H enc)
#print axioms proved
end Go.Proofs.Ytpkadbkejninaaa.lawValidShip
