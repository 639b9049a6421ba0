/- 'ReadWarning' of the program answers as the reference's, for every input. The listed variables are tied to the text by the given tie; no other condition. Printed by wip/genlaw.py. -/
import Derived.Test.YtocpgnpdnoidnaaDoorWarnRI
import Derived.Test.YtocpgnpdnoidnaaDoorTWarning
import Derived.Test.YtocpgnpdnoidnaaDoorTInt64
import Derived.Test.YtocpgnpdnoidnaaDoorCardR
import Derived.Deep.RegionHeld3
namespace Go.Proofs.YtocpgnpdnoidnaaDoor.lawReadWarning
open Go.RowKit Go.Sort
set_option linter.unusedVariables false

set_option maxHeartbeats 4000000 in
set_option maxRecDepth 100000 in
theorem walk (s0 : ByteArray) (w : World) (h0 : s0.size ≤ maxLen) (hp : Rd w) :
    Calls Tryd.prog 4 #[.string s0] w fun e w' => e = .returned (.bool true) ∧ Below w.heap.size w w' := by
  by_cases hg0 : 1048576 < (s0.size : Int)
  · go_enter Tryd.func4, Tryd.ntmps4
    go_wp2
    all_goals (go_ret; exact ⟨rfl, by (repeat' (first | (with_reducible exact Below.refl _ _) | (with_reducible refine Below.alloc ?_ ?_ _) | (with_reducible refine Below.drew ?_) | (with_reducible refine below_drewN ?_ _) | (with_reducible refine Below.setCell ?_ ?_ _) | (with_reducible refine below_via ‹_› ?_ ?_) | (with_reducible refine below_grow ?_ ?_ _ _) | omega | (simp; done) | (simp; omega)))⟩)
  have hl0 : (s0.size : Int) ≤ 1048576 := by omega
  go_enter Tryd.func4, Tryd.ntmps4
  go_wp2_with fail
  refine (c_spec_ReadWarning' _ _ (by omega)).mono ?_
  rintro e w1 ⟨rfl, hb1⟩
  obtain ⟨hc1, hf1⟩ := bcell hb1; have hz1 := hb1.size; (try simp at hz1); (try have hy : w.heap.size < w1.heap.size := by omega); (try have hy : w.heap.size ≤ w1.heap.size := by omega); (try have hy : w.heap.size + 1 < w1.heap.size := by omega); (try have hy : w.heap.size + 1 ≤ w1.heap.size := by omega); (try have hy : w.heap.size + 2 < w1.heap.size := by omega); (try have hy : w.heap.size + 2 ≤ w1.heap.size := by omega)
  go_wp2_with fail
  refine (c_impl_ReadWarning' _ _ (by omega) (by first | (with_reducible assumption) | (with_reducible apply Rd.at; (with_reducible assumption); (repeat' (first | (with_reducible exact Below.refl _ _) | (with_reducible refine Below.alloc ?_ ?_ _) | (with_reducible refine Below.drew ?_) | (with_reducible refine below_drewN ?_ _) | (with_reducible refine Below.setCell ?_ ?_ _) | (with_reducible refine below_via ‹_› ?_ ?_) | (with_reducible refine below_grow ?_ ?_ _ _) | omega | (simp; done) | (simp; omega))); done))).mono ?_
  rintro e w2 ⟨rfl, hb2⟩
  obtain ⟨hc2, hf2⟩ := bcell hb2; have hz2 := hb2.size; (try simp at hz2); (try have hy : w.heap.size < w2.heap.size := by omega); (try have hy : w.heap.size ≤ w2.heap.size := by omega); (try have hy : w.heap.size + 1 < w2.heap.size := by omega); (try have hy : w.heap.size + 1 ≤ w2.heap.size := by omega); (try have hy : w.heap.size + 2 < w2.heap.size := by omega); (try have hy : w.heap.size + 2 ≤ w2.heap.size := by omega); (try have hy : w1.heap.size < w2.heap.size := by omega); (try have hy : w1.heap.size ≤ w2.heap.size := by omega)
  go_wp2_with fail
  refine (c_eqWarning _ _ _ _ _ _ _ _ _).mono ?_
  rintro e w3 ⟨rfl, hb3⟩
  obtain ⟨hc3, hf3⟩ := bcell hb3; have hz3 := hb3.size; (try simp at hz3); (try have hy : w.heap.size < w3.heap.size := by omega); (try have hy : w.heap.size ≤ w3.heap.size := by omega); (try have hy : w.heap.size + 1 < w3.heap.size := by omega); (try have hy : w.heap.size + 1 ≤ w3.heap.size := by omega); (try have hy : w.heap.size + 2 < w3.heap.size := by omega); (try have hy : w.heap.size + 2 ≤ w3.heap.size := by omega); (try have hy : w1.heap.size < w3.heap.size := by omega); (try have hy : w1.heap.size ≤ w3.heap.size := by omega); (try have hy : w2.heap.size < w3.heap.size := by omega); (try have hy : w2.heap.size ≤ w3.heap.size := by omega)
  go_wp2_with fail
  go_ret
  exact ⟨rfl, by (repeat' (first | (with_reducible exact Below.refl _ _) | (with_reducible refine Below.alloc ?_ ?_ _) | (with_reducible refine Below.drew ?_) | (with_reducible refine below_drewN ?_ _) | (with_reducible refine Below.setCell ?_ ?_ _) | (with_reducible refine below_via ‹_› ?_ ?_) | (with_reducible refine below_grow ?_ ?_ _ _) | omega | (simp; done) | (simp; omega)))⟩

open Go.ChangeShapes Go.WideShapes Go.ChangeAt
theorem own : ownKnob Tryd.prog.godebug = none := by kernel_rfl
theorem laidOut : laidOutB Tryd.prog = true := by kernel_rfl

set_option maxRecDepth 100000 in
theorem lifted (os : Os) (started : os.Started) (H : Type) (enc : TypeId × Value → H) :
    ReturnsInHanded {} Tryd.checked os 4 .any (fun w args => (Rows.fnExactReadWarningSpec.pre enc Tryd.prog Tryd.f4 Rows.fnExactReadWarningRow.domain false w args ∧ laidMetH Tryd.prog Rows.fnExactReadWarningRow.laid w) ∧ sizedMet enc Tryd.prog Tryd.f4 (OpenSpec.ofChange Rows.fnExactReadWarningSpec) false w args)
      (Rows.fnExactReadWarningSpec.post enc Tryd.prog Tryd.f4 false true false false) := by
  refine returnsInHanded_of_change_shaped_and (C := Tryd.checked) (X := fun w _ => laidMetH Tryd.prog Rows.fnExactReadWarningRow.laid w) (fun _ _ _ hh h => h.of_heap hh) own started (by kernel_rfl) Tryd.func4
    (ChangeSpec.witness_shaped (enc := enc) (C := Tryd.checked) (os := os) (X := fun w _ => laidMetH Tryd.prog Rows.fnExactReadWarningRow.laid w) false (World.laidAll Tryd.prog os Rows.fnExactReadWarningRow.laid) #[.string ⟨#[]⟩] 8 (World.laidAll_os _ _ _)
      (World.shaped_of_ZipB (by kernel_rfl) (by kernel_rfl)) (by kernel_rfl) (by kernel_rfl) (by kernel_rfl)
      (by rw [MakeChecks.laidMetH_plain _ _ _ (by kernel_rfl)]; exact laidMet_laidAll _ (by kernel_rfl) (by kernel_rfl))) ?_
  intro W base args ds gs before hval0 hW hcnd _ hL hsh _
  rw [MakeChecks.laidMetH_plain _ _ _ (by kernel_rfl)] at hL
  have hRd : Rd W := rd_of_met hL hsh
  have hval : ∀ (j : Nat) t v, Tryd.f4.params[j]? = some t → args[j]? = some v → Value.okWide Tryd.prog W .any base t v := hval0
  have hW' := hW
  obtain ⟨p, q, hA0, hV, rfl, hfz, hnd⟩ := hW
  have hA : DataW.TrodAll enc Tryd.prog W 0 (fun _ => true) true Tryd.f4.params.toList args.toList ds p := hA0
  rw [Tryd.params4] at hA hval
  obtain ⟨u0, vs0, e0, ds0, p0, q0, hargs, rfl, rfl, t0, r0⟩ := trodAll_cons hA
  obtain ⟨rfl, rfl, rfl⟩ := trodAll_nil r0
  obtain rfl : args = #[u0] := by cases args; simp_all
  obtain ⟨rfl, rfl⟩ := trodVars_none hV
  have t0' := t0
  have lt0 : ∀ x ∈ p0, x.block < W.heap.size := by obtain ⟨m, hm⟩ := t0'; exact DataW.trod_lt m _ _ _ hm
  obtain ⟨s0, rfl, h0⟩ := open_String (hval 0 9 u0 rfl rfl) t0
  clear hA0 hval0
  refine (walk s0 W h0 hRd).mono fun e W' ⟨he, bel⟩ => ?_
  subst he
  exact ⟨_, rfl, _, _, _, [], _, [], hW', trodAll_mk1 (shut_bool Tryd.underlying4 _), (trodAll_cons_mk (Below.trod laidOut (by kernel_rfl) (of_decide_eq_true (by kernel_rfl)) t0' bel lt0) trodAll_mk0), rfl, bel.frame _, fun h => by cases h⟩

theorem cf_inPlace : (Rows.fnExactReadWarningRow.inPlace == Tryd.prog.inPlace 4) = true := by kernel_rfl
theorem cf_unfollowed : (Rows.fnExactReadWarningRow.unfollowed == Tryd.prog.unfollowed 4) = true := by kernel_rfl
theorem cf_recurses : (Rows.fnExactReadWarningRow.recurses == Tryd.prog.recurses 4) = true := by kernel_rfl
theorem cf_named : (Rows.fnExactReadWarningRow.named == Tryd.prog.varsNamed 4) = true := by kernel_rfl
theorem cf_lifted : (Rows.fnExactReadWarningRow.lifted == Tryd.prog.liftsFinal) = true := pf_lifted
theorem cf_plainKeys : (Rows.fnExactReadWarningRow.plainKeys == Tryd.prog.plainKeys) = true := pf_plainKeys
set_option maxRecDepth 100000 in
theorem closed : joinedFacts Tryd.prog 4 Tryd.f4 Rows.fnExactReadWarningSpec Rows.fnExactReadWarningRow = true := by
  simp only [joinedFacts, cf_inPlace, cf_unfollowed, cf_recurses, cf_named, cf_lifted, cf_plainKeys, pf_stopsHeard, pf_mayEnter, pf_laidOut, pf_mapsRowed, Bool.and_true]
  kernel_rfl
theorem holds : Rows.FnExactReadWarningSaid :=
  OpenClaim.holds_of_wide 4 Tryd.f4 rfl rfl rfl rfl rfl rfl rfl ⟨rfl, rfl, rfl, rfl, rfl⟩ rfl rfl rfl rfl rfl (by kernel_rfl) Tryd.func4 closed
    (of_decide_eq_true (by kernel_rfl)) (by unfold Func.isWrapper; first | (rw [if_pos (by decide +kernel)]; kernel_rfl) | (rw [if_neg (by decide +kernel)]; exact ⟨rfl, rfl⟩))
    (fun os started H enc _ => lifted os started H enc)
theorem proved : Rows.FnExactReadWarningCardSaid :=
  Claim7.holds_tied_plain_at .later [] _ true _ true holds (fun _ h => by cases h) (by kernel_rfl) (fun _ h => by cases h) fnExactReadWarning_row_tie rfl ⟨rfl, rfl⟩ (by kernel_rfl) rfl
    (fun f fn hf hfn => by
      obtain rfl : f = 4 := Option.some.inj ((show Tryd.prog.funcNamed Rows.fnExactReadWarningRow.func = some 4 by kernel_rfl).symm.trans hf) |>.symm
      obtain rfl : fn = Tryd.f4 := (Option.some.inj (Tryd.func4.symm.trans hfn)).symm
      exact ⟨by kernel_rfl, fun j t ht => by
        rw [Tryd.params4] at ht
        have hm : t ∈ [9] := by simpa using Array.mem_of_getElem? ht
        have hall : ([9].all fun u => !Tryd.prog.wantsStandIn u) = true := by kernel_rfl
        exact (show Tryd.prog.wantsStandIn t = false by simpa using List.all_eq_true.1 hall t hm)⟩)
    (by kernel_rfl)
#print axioms proved
end Go.Proofs.YtocpgnpdnoidnaaDoor.lawReadWarning
