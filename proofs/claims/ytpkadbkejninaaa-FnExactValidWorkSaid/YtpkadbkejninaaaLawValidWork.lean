/- 'ValidWork' of the program answers as the reference's, for every input. No condition. Printed by wip/genlaw.py. -/
import Derived.Test.YtpkadbkejninaaaWork
import Derived.Test.YtpkadbkejninaaaTInt64
import Derived.Deep.RegionHeld3
namespace Go.Proofs.Ytpkadbkejninaaa.lawValidWork
open Go.RowKit Go.Sort
set_option linter.unusedVariables false

set_option maxHeartbeats 1000000 in
set_option maxRecDepth 100000 in
theorem walk (d0 : WorkD) (w : World) (k0 : okWork d0) :
    Calls Try.prog 4 #[.agg #[.string d0.fName, .int .i64 d0.fAtX, .int .i64 d0.fAtY, .int .i64 d0.fLoad, .int .i64 d0.fMinutes, .int .i64 d0.fFrom, .int .i64 d0.fUntil]] w fun e w' => e = .returned (.bool true) ∧ Below w.heap.size w w' := by
  have q0_0 := k0.1
  rcases szV_cases 1048576 ((d0.fName.size : Int)) (by omega) with hs0 | ⟨hs0, hle0, hub0⟩
  · go_enter Try.func4, Try.ntmps4
    go_wp2_with (first | (go_at_call 19; refine (c_szWork _ _ _ _ _ _ _ _ _ (by assumption) (by omega) (by omega)).mono ?_; rintro e w1 ⟨rfl, hb⟩; obtain ⟨hc, hf⟩ := bcell hb; have hz := hb.size; (try simp only [World.size_alloc, World.size_drew, size_drewN, World.size_setCell] at hz); (try have hz0 : ∀ b, b < w.heap.size → b < w1.heap.size := fun b h => by omega); (try have hz1 : w.heap.size < w1.heap.size := by omega); (try have hz2 : w.heap.size + 1 < w1.heap.size := by omega); (try have hz3 : w.heap.size + 2 < w1.heap.size := by omega)))
    all_goals (go_ret; exact ⟨rfl, by (repeat' (first | (with_reducible exact Below.refl _ _) | (with_reducible refine Below.alloc ?_ ?_ _) | (with_reducible refine Below.drew ?_) | (with_reducible refine below_drewN ?_ _) | (with_reducible refine Below.setCell ?_ ?_ _) | (with_reducible refine below_via ‹_› ?_ ?_) | (with_reducible refine below_grow ?_ ?_ _ _) | omega | (simp only [World.size_alloc, World.size_setCell, World.size_drew, size_drewN]; omega)))⟩)
  go_enter Try.func4, Try.ntmps4
  go_wp2_with fail
  refine (c_szWork _ _ _ _ _ _ _ _ _ (by assumption) (by omega) (by omega)).mono ?_
  rintro e w1 ⟨rfl, hb1⟩
  obtain ⟨hc1, hf1⟩ := bcell hb1; have hz1 := hb1.size; (try simp only [World.size_alloc, World.size_drew, size_drewN, World.size_setCell] at hz1); (try have hy : w.heap.size < w1.heap.size := by omega); (try have hy : w.heap.size ≤ w1.heap.size := by omega); (try have hy : w.heap.size + 1 < w1.heap.size := by omega); (try have hy : w.heap.size + 1 ≤ w1.heap.size := by omega); (try have hy : w.heap.size + 2 < w1.heap.size := by omega); (try have hy : w.heap.size + 2 ≤ w1.heap.size := by omega)
  go_wp2_with fail
  refine (c_toWork _ _ _ _ _ _ _ _).mono ?_
  rintro e w2 ⟨rfl, hb2⟩
  obtain ⟨hc2, hf2⟩ := bcell hb2; have hz2 := hb2.size; (try simp only [World.size_alloc, World.size_drew, size_drewN, World.size_setCell] at hz2); (try have hy : w.heap.size < w2.heap.size := by omega); (try have hy : w.heap.size ≤ w2.heap.size := by omega); (try have hy : w.heap.size + 1 < w2.heap.size := by omega); (try have hy : w.heap.size + 1 ≤ w2.heap.size := by omega); (try have hy : w.heap.size + 2 < w2.heap.size := by omega); (try have hy : w.heap.size + 2 ≤ w2.heap.size := by omega); (try have hy : w1.heap.size < w2.heap.size := by omega); (try have hy : w1.heap.size ≤ w2.heap.size := by omega)
  go_wp2_with fail
  refine (c_spec_ValidWork _ _ _ _ _ _ _ _ (by assumption)).mono ?_
  rintro e w3 ⟨rfl, hb3⟩
  obtain ⟨hc3, hf3⟩ := bcell hb3; have hz3 := hb3.size; (try simp only [World.size_alloc, World.size_drew, size_drewN, World.size_setCell] at hz3); (try have hy : w.heap.size < w3.heap.size := by omega); (try have hy : w.heap.size ≤ w3.heap.size := by omega); (try have hy : w.heap.size + 1 < w3.heap.size := by omega); (try have hy : w.heap.size + 1 ≤ w3.heap.size := by omega); (try have hy : w.heap.size + 2 < w3.heap.size := by omega); (try have hy : w.heap.size + 2 ≤ w3.heap.size := by omega); (try have hy : w1.heap.size < w3.heap.size := by omega); (try have hy : w1.heap.size ≤ w3.heap.size := by omega); (try have hy : w2.heap.size < w3.heap.size := by omega); (try have hy : w2.heap.size ≤ w3.heap.size := by omega)
  go_wp2_with fail
  refine (c_toWork _ _ _ _ _ _ _ _).mono ?_
  rintro e w4 ⟨rfl, hb4⟩
  obtain ⟨hc4, hf4⟩ := bcell hb4; have hz4 := hb4.size; (try simp only [World.size_alloc, World.size_drew, size_drewN, World.size_setCell] at hz4); (try have hy : w.heap.size < w4.heap.size := by omega); (try have hy : w.heap.size ≤ w4.heap.size := by omega); (try have hy : w.heap.size + 1 < w4.heap.size := by omega); (try have hy : w.heap.size + 1 ≤ w4.heap.size := by omega); (try have hy : w.heap.size + 2 < w4.heap.size := by omega); (try have hy : w.heap.size + 2 ≤ w4.heap.size := by omega); (try have hy : w1.heap.size < w4.heap.size := by omega); (try have hy : w1.heap.size ≤ w4.heap.size := by omega); (try have hy : w2.heap.size < w4.heap.size := by omega); (try have hy : w2.heap.size ≤ w4.heap.size := by omega); (try have hy : w3.heap.size < w4.heap.size := by omega); (try have hy : w3.heap.size ≤ w4.heap.size := by omega)
  go_wp2_with fail
  refine (c_impl_ValidWork _ _ _ _ _ _ _ _ (by assumption)).mono ?_
  rintro e w5 ⟨rfl, hb5⟩
  obtain ⟨hc5, hf5⟩ := bcell hb5; have hz5 := hb5.size; (try simp only [World.size_alloc, World.size_drew, size_drewN, World.size_setCell] at hz5); (try have hy : w.heap.size < w5.heap.size := by omega); (try have hy : w.heap.size ≤ w5.heap.size := by omega); (try have hy : w.heap.size + 1 < w5.heap.size := by omega); (try have hy : w.heap.size + 1 ≤ w5.heap.size := by omega); (try have hy : w.heap.size + 2 < w5.heap.size := by omega); (try have hy : w.heap.size + 2 ≤ w5.heap.size := by omega); (try have hy : w1.heap.size < w5.heap.size := by omega); (try have hy : w1.heap.size ≤ w5.heap.size := by omega); (try have hy : w2.heap.size < w5.heap.size := by omega); (try have hy : w2.heap.size ≤ w5.heap.size := by omega); (try have hy : w3.heap.size < w5.heap.size := by omega); (try have hy : w3.heap.size ≤ w5.heap.size := by omega); (try have hy : w4.heap.size < w5.heap.size := by omega); (try have hy : w4.heap.size ≤ w5.heap.size := by omega)
  go_wp2_with fail
  go_ret
  exact ⟨rfl, by (repeat' (first | (with_reducible exact Below.refl _ _) | (with_reducible refine Below.alloc ?_ ?_ _) | (with_reducible refine Below.drew ?_) | (with_reducible refine below_drewN ?_ _) | (with_reducible refine Below.setCell ?_ ?_ _) | (with_reducible refine below_via ‹_› ?_ ?_) | (with_reducible refine below_grow ?_ ?_ _ _) | omega | (simp only [World.size_alloc, World.size_setCell, World.size_drew, size_drewN]; omega)))⟩

open Go.ChangeShapes Go.WideShapes Go.ChangeAt
theorem own : ownKnob Try.prog.godebug = none := by kernel_rfl
theorem laidOut : laidOutB Try.prog = true := by kernel_rfl

set_option maxRecDepth 100000 in
theorem lifted (os : Os) (started : os.Started) (H : Type) (enc : TypeId × Value → H) :
    ReturnsInHanded {} Try.checked os 4 .any (Rows.fnExactValidWorkSpec.pre6 enc Try.prog Try.f4 Rows.fnExactValidWorkRow.domain false) (Rows.fnExactValidWorkSpec.post enc Try.prog Try.f4 false true false false) := by
  refine returnsInHanded_of_change (C := Try.checked) own started (by kernel_rfl) Try.func4
    (ChangeSpec.witness6 (enc := enc) (C := Try.checked) false ⟨#[], #[.agg #[.string ⟨#[]⟩, .int .i64 0, .int .i64 0, .int .i64 0, .int .i64 0, .int .i64 0, .int .i64 0]], []⟩ 8 (by kernel_rfl) (by kernel_rfl) (by kernel_rfl) (by kernel_rfl)) ?_
  intro W base args ds gs before hval0 hW hcnd _
  have hval : ∀ (j : Nat) t v, Try.f4.params[j]? = some t → args[j]? = some v → Value.okWide Try.prog W .any base t v := hval0
  have hW' := hW
  obtain ⟨p, q, hA0, hV, rfl, hfz, hnd⟩ := hW
  have hA : DataW.TrodAll enc Try.prog W 0 (fun _ => true) true Try.f4.params.toList args.toList ds p := hA0
  rw [Try.params4] at hA hval
  obtain ⟨u0, vs0, e0, ds0, p0, q0, hargs, rfl, rfl, t0, r0⟩ := trodAll_cons hA
  obtain ⟨rfl, rfl, rfl⟩ := trodAll_nil r0
  obtain rfl : args = #[u0] := by cases args; simp_all
  obtain ⟨rfl, rfl⟩ := trodVars_none hV
  have t0' := t0
  have lt0 : ∀ x ∈ p0, x.block < W.heap.size := by obtain ⟨m, hm⟩ := t0'; exact DataW.trod_lt m _ _ _ hm
  obtain ⟨d0, rfl, k0⟩ := open_Work (hval 0 32 u0 rfl rfl) t0
  clear hA0 hval0
  refine (walk d0 W k0).mono fun e W' ⟨he, bel⟩ => ?_
  subst he
  exact ⟨_, rfl, _, _, _, [], _, [], hW', trodAll_mk1 (shut_bool Try.underlying4 _), (trodAll_cons_mk (Below.trod laidOut (by kernel_rfl) (of_decide_eq_true (by kernel_rfl)) t0' bel lt0) trodAll_mk0), rfl, bel.frame _, fun h => by cases h⟩

theorem proved : Rows.FnExactValidWorkSaid :=
  OpenClaim.holds_of_wide 4 Try.f4 rfl rfl rfl rfl rfl rfl rfl ⟨rfl, rfl, rfl, rfl, rfl⟩ rfl rfl rfl rfl rfl (by kernel_rfl) Try.func4 (by kernel_rfl)
    (of_decide_eq_true (by kernel_rfl)) (by unfold Func.isWrapper; first | (rw [if_pos (by decide +kernel)]; kernel_rfl) | (rw [if_neg (by decide +kernel)]; exact ⟨rfl, rfl⟩))
    (fun os started H enc _ => lifted os started H enc)
#print axioms proved
end Go.Proofs.Ytpkadbkejninaaa.lawValidWork
