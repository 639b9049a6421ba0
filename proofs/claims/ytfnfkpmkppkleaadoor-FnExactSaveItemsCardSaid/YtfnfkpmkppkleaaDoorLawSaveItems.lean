/- 'SaveItems' of the program answers as the reference's, for every input. The listed variables are tied to the text by the given tie; no other condition. Printed by wip/genlaw.py. -/
import Derived.Test.YtfnfkpmkppkleaaDoorSaveT
import Derived.Test.YtfnfkpmkppkleaaDoorTItem
import Derived.Test.YtfnfkpmkppkleaaDoorTInt64
import Derived.Test.YtfnfkpmkppkleaaDoorCard
import Derived.Deep.RegionHeld3
namespace Go.Proofs.YtfnfkpmkppkleaaDoor.lawSaveItems
open Go.RowKit Go.Sort
set_option linter.unusedVariables false

set_option maxHeartbeats 4000000 in
set_option maxRecDepth 100000 in
theorem walk (v0 : Value) (xs0 : List ItemD) (w : World) (h0 : SlA w 0 2 encItem v0 xs0) (k0 : ∀ x ∈ xs0, okItem x) (hp : Pow w) :
    Calls Tryd.prog 8 #[v0] w fun e w' => e = .returned (.bool true) ∧ Below w.heap.size w w' := by
  have nn0 := totItem_nn xs0
  rcases szV_cases 1048576 (xs0.length + totItem xs0) (by omega) with hs0 | ⟨hs0, hle0, hub0⟩
  · go_enter Tryd.func8, Tryd.ntmps8
    go_wp2_with (first | (go_at_call 37; refine (c_szItemS _ _ _ _ (by first | (with_reducible assumption) | (with_reducible apply SlO.at; (with_reducible assumption); (repeat' (first | (with_reducible exact Below.refl _ _) | (with_reducible refine Below.alloc ?_ ?_ _) | (with_reducible refine Below.drew ?_) | (with_reducible refine below_drewN ?_ _) | (with_reducible refine Below.setCell ?_ ?_ _) | (with_reducible refine below_via ‹_› ?_ ?_) | (with_reducible refine below_grow ?_ ?_ _ _) | omega | (simp; done) | (simp; omega))); done) | (with_reducible apply SlA.at; (with_reducible assumption); (repeat' (first | (with_reducible exact Below.refl _ _) | (with_reducible refine Below.alloc ?_ ?_ _) | (with_reducible refine Below.drew ?_) | (with_reducible refine below_drewN ?_ _) | (with_reducible refine Below.setCell ?_ ?_ _) | (with_reducible refine below_via ‹_› ?_ ?_) | (with_reducible refine below_grow ?_ ?_ _ _) | omega | (simp; done) | (simp; omega))); done)) (by assumption) (by omega) (by omega)).mono ?_; rintro e w1 ⟨rfl, hb⟩; obtain ⟨hc, hf⟩ := bcell hb; have hz := hb.size; (try simp at hz); (try have hz0 : ∀ b, b < w.heap.size → b < w1.heap.size := fun b h => by omega); (try have hz1 : w.heap.size < w1.heap.size := by omega); (try have hz2 : w.heap.size + 1 < w1.heap.size := by omega); (try have hz3 : w.heap.size + 2 < w1.heap.size := by omega)))
    all_goals (go_ret; exact ⟨rfl, by (repeat' (first | (with_reducible exact Below.refl _ _) | (with_reducible refine Below.alloc ?_ ?_ _) | (with_reducible refine Below.drew ?_) | (with_reducible refine below_drewN ?_ _) | (with_reducible refine Below.setCell ?_ ?_ _) | (with_reducible refine below_via ‹_› ?_ ?_) | (with_reducible refine below_grow ?_ ?_ _ _) | omega | (simp; done) | (simp; omega)))⟩)
  have hl0 : (xs0.length : Int) ≤ 1048576 := by omega
  go_enter Tryd.func8, Tryd.ntmps8
  go_wp2_with fail
  refine (c_szItemS _ _ _ _ (by first | (with_reducible assumption) | (with_reducible apply SlO.at; (with_reducible assumption); (repeat' (first | (with_reducible exact Below.refl _ _) | (with_reducible refine Below.alloc ?_ ?_ _) | (with_reducible refine Below.drew ?_) | (with_reducible refine below_drewN ?_ _) | (with_reducible refine Below.setCell ?_ ?_ _) | (with_reducible refine below_via ‹_› ?_ ?_) | (with_reducible refine below_grow ?_ ?_ _ _) | omega | (simp; done) | (simp; omega))); done) | (with_reducible apply SlA.at; (with_reducible assumption); (repeat' (first | (with_reducible exact Below.refl _ _) | (with_reducible refine Below.alloc ?_ ?_ _) | (with_reducible refine Below.drew ?_) | (with_reducible refine below_drewN ?_ _) | (with_reducible refine Below.setCell ?_ ?_ _) | (with_reducible refine below_via ‹_› ?_ ?_) | (with_reducible refine below_grow ?_ ?_ _ _) | omega | (simp; done) | (simp; omega))); done)) (by assumption) (by omega) (by omega)).mono ?_
  rintro e w1 ⟨rfl, hb1⟩
  obtain ⟨hc1, hf1⟩ := bcell hb1; have hz1 := hb1.size; (try simp at hz1); (try have hy : w.heap.size < w1.heap.size := by omega); (try have hy : w.heap.size ≤ w1.heap.size := by omega); (try have hy : w.heap.size + 1 < w1.heap.size := by omega); (try have hy : w.heap.size + 1 ≤ w1.heap.size := by omega); (try have hy : w.heap.size + 2 < w1.heap.size := by omega); (try have hy : w.heap.size + 2 ≤ w1.heap.size := by omega)
  go_wp2_with fail
  refine (c_toItemS _ _ _ (by first | (with_reducible assumption) | (with_reducible apply SlO.at; (with_reducible assumption); (repeat' (first | (with_reducible exact Below.refl _ _) | (with_reducible refine Below.alloc ?_ ?_ _) | (with_reducible refine Below.drew ?_) | (with_reducible refine below_drewN ?_ _) | (with_reducible refine Below.setCell ?_ ?_ _) | (with_reducible refine below_via ‹_› ?_ ?_) | (with_reducible refine below_grow ?_ ?_ _ _) | omega | (simp; done) | (simp; omega))); done) | (with_reducible apply SlA.at; (with_reducible assumption); (repeat' (first | (with_reducible exact Below.refl _ _) | (with_reducible refine Below.alloc ?_ ?_ _) | (with_reducible refine Below.drew ?_) | (with_reducible refine below_drewN ?_ _) | (with_reducible refine Below.setCell ?_ ?_ _) | (with_reducible refine below_via ‹_› ?_ ?_) | (with_reducible refine below_grow ?_ ?_ _ _) | omega | (simp; done) | (simp; omega))); done)) (by omega)).mono ?_
  rintro e w2 ⟨g2, rfl, hb2, hS2⟩
  obtain ⟨hc2, hf2⟩ := bcell hb2; have hz2 := hb2.size; (try simp at hz2); (try have hy : w.heap.size < w2.heap.size := by omega); (try have hy : w.heap.size ≤ w2.heap.size := by omega); (try have hy : w.heap.size + 1 < w2.heap.size := by omega); (try have hy : w.heap.size + 1 ≤ w2.heap.size := by omega); (try have hy : w.heap.size + 2 < w2.heap.size := by omega); (try have hy : w.heap.size + 2 ≤ w2.heap.size := by omega); (try have hy : w1.heap.size < w2.heap.size := by omega); (try have hy : w1.heap.size ≤ w2.heap.size := by omega)
  go_wp2_with fail
  refine (c_spec_SaveItems _ _ _ (by first | (with_reducible assumption) | (with_reducible apply SlO.at; (with_reducible assumption); (repeat' (first | (with_reducible exact Below.refl _ _) | (with_reducible refine Below.alloc ?_ ?_ _) | (with_reducible refine Below.drew ?_) | (with_reducible refine below_drewN ?_ _) | (with_reducible refine Below.setCell ?_ ?_ _) | (with_reducible refine below_via ‹_› ?_ ?_) | (with_reducible refine below_grow ?_ ?_ _ _) | omega | (simp; done) | (simp; omega))); done) | (with_reducible apply SlA.at; (with_reducible assumption); (repeat' (first | (with_reducible exact Below.refl _ _) | (with_reducible refine Below.alloc ?_ ?_ _) | (with_reducible refine Below.drew ?_) | (with_reducible refine below_drewN ?_ _) | (with_reducible refine Below.setCell ?_ ?_ _) | (with_reducible refine below_via ‹_› ?_ ?_) | (with_reducible refine below_grow ?_ ?_ _ _) | omega | (simp; done) | (simp; omega))); done)) (by assumption)).mono ?_
  rintro e w3 ⟨rfl, hb3⟩
  obtain ⟨hc3, hf3⟩ := bcell hb3; have hz3 := hb3.size; (try simp at hz3); (try have hy : w.heap.size < w3.heap.size := by omega); (try have hy : w.heap.size ≤ w3.heap.size := by omega); (try have hy : w.heap.size + 1 < w3.heap.size := by omega); (try have hy : w.heap.size + 1 ≤ w3.heap.size := by omega); (try have hy : w.heap.size + 2 < w3.heap.size := by omega); (try have hy : w.heap.size + 2 ≤ w3.heap.size := by omega); (try have hy : w1.heap.size < w3.heap.size := by omega); (try have hy : w1.heap.size ≤ w3.heap.size := by omega); (try have hy : w2.heap.size < w3.heap.size := by omega); (try have hy : w2.heap.size ≤ w3.heap.size := by omega)
  go_wp2_with fail
  refine (c_toItemS _ _ _ (by first | (with_reducible assumption) | (with_reducible apply SlO.at; (with_reducible assumption); (repeat' (first | (with_reducible exact Below.refl _ _) | (with_reducible refine Below.alloc ?_ ?_ _) | (with_reducible refine Below.drew ?_) | (with_reducible refine below_drewN ?_ _) | (with_reducible refine Below.setCell ?_ ?_ _) | (with_reducible refine below_via ‹_› ?_ ?_) | (with_reducible refine below_grow ?_ ?_ _ _) | omega | (simp; done) | (simp; omega))); done) | (with_reducible apply SlA.at; (with_reducible assumption); (repeat' (first | (with_reducible exact Below.refl _ _) | (with_reducible refine Below.alloc ?_ ?_ _) | (with_reducible refine Below.drew ?_) | (with_reducible refine below_drewN ?_ _) | (with_reducible refine Below.setCell ?_ ?_ _) | (with_reducible refine below_via ‹_› ?_ ?_) | (with_reducible refine below_grow ?_ ?_ _ _) | omega | (simp; done) | (simp; omega))); done)) (by omega)).mono ?_
  rintro e w4 ⟨g4, rfl, hb4, hS4⟩
  obtain ⟨hc4, hf4⟩ := bcell hb4; have hz4 := hb4.size; (try simp at hz4); (try have hy : w.heap.size < w4.heap.size := by omega); (try have hy : w.heap.size ≤ w4.heap.size := by omega); (try have hy : w.heap.size + 1 < w4.heap.size := by omega); (try have hy : w.heap.size + 1 ≤ w4.heap.size := by omega); (try have hy : w.heap.size + 2 < w4.heap.size := by omega); (try have hy : w.heap.size + 2 ≤ w4.heap.size := by omega); (try have hy : w1.heap.size < w4.heap.size := by omega); (try have hy : w1.heap.size ≤ w4.heap.size := by omega); (try have hy : w2.heap.size < w4.heap.size := by omega); (try have hy : w2.heap.size ≤ w4.heap.size := by omega); (try have hy : w3.heap.size < w4.heap.size := by omega); (try have hy : w3.heap.size ≤ w4.heap.size := by omega)
  go_wp2_with fail
  refine (c_impl_SaveItems _ _ _ (by first | (with_reducible assumption) | (with_reducible apply SlO.at; (with_reducible assumption); (repeat' (first | (with_reducible exact Below.refl _ _) | (with_reducible refine Below.alloc ?_ ?_ _) | (with_reducible refine Below.drew ?_) | (with_reducible refine below_drewN ?_ _) | (with_reducible refine Below.setCell ?_ ?_ _) | (with_reducible refine below_via ‹_› ?_ ?_) | (with_reducible refine below_grow ?_ ?_ _ _) | omega | (simp; done) | (simp; omega))); done) | (with_reducible apply SlA.at; (with_reducible assumption); (repeat' (first | (with_reducible exact Below.refl _ _) | (with_reducible refine Below.alloc ?_ ?_ _) | (with_reducible refine Below.drew ?_) | (with_reducible refine below_drewN ?_ _) | (with_reducible refine Below.setCell ?_ ?_ _) | (with_reducible refine below_via ‹_› ?_ ?_) | (with_reducible refine below_grow ?_ ?_ _ _) | omega | (simp; done) | (simp; omega))); done)) (by assumption) (by first | (with_reducible assumption) | (with_reducible apply Pow.at; (with_reducible assumption); (repeat' (first | (with_reducible exact Below.refl _ _) | (with_reducible refine Below.alloc ?_ ?_ _) | (with_reducible refine Below.drew ?_) | (with_reducible refine below_drewN ?_ _) | (with_reducible refine Below.setCell ?_ ?_ _) | (with_reducible refine below_via ‹_› ?_ ?_) | (with_reducible refine below_grow ?_ ?_ _ _) | omega | (simp; done) | (simp; omega))); done))).mono ?_
  rintro e w5 ⟨rfl, hb5⟩
  obtain ⟨hc5, hf5⟩ := bcell hb5; have hz5 := hb5.size; (try simp at hz5); (try have hy : w.heap.size < w5.heap.size := by omega); (try have hy : w.heap.size ≤ w5.heap.size := by omega); (try have hy : w.heap.size + 1 < w5.heap.size := by omega); (try have hy : w.heap.size + 1 ≤ w5.heap.size := by omega); (try have hy : w.heap.size + 2 < w5.heap.size := by omega); (try have hy : w.heap.size + 2 ≤ w5.heap.size := by omega); (try have hy : w1.heap.size < w5.heap.size := by omega); (try have hy : w1.heap.size ≤ w5.heap.size := by omega); (try have hy : w2.heap.size < w5.heap.size := by omega); (try have hy : w2.heap.size ≤ w5.heap.size := by omega); (try have hy : w3.heap.size < w5.heap.size := by omega); (try have hy : w3.heap.size ≤ w5.heap.size := by omega); (try have hy : w4.heap.size < w5.heap.size := by omega); (try have hy : w4.heap.size ≤ w5.heap.size := by omega)
  go_wp2_with fail
  refine (c_toItemS _ _ _ (by first | (with_reducible assumption) | (with_reducible apply SlO.at; (with_reducible assumption); (repeat' (first | (with_reducible exact Below.refl _ _) | (with_reducible refine Below.alloc ?_ ?_ _) | (with_reducible refine Below.drew ?_) | (with_reducible refine below_drewN ?_ _) | (with_reducible refine Below.setCell ?_ ?_ _) | (with_reducible refine below_via ‹_› ?_ ?_) | (with_reducible refine below_grow ?_ ?_ _ _) | omega | (simp; done) | (simp; omega))); done) | (with_reducible apply SlA.at; (with_reducible assumption); (repeat' (first | (with_reducible exact Below.refl _ _) | (with_reducible refine Below.alloc ?_ ?_ _) | (with_reducible refine Below.drew ?_) | (with_reducible refine below_drewN ?_ _) | (with_reducible refine Below.setCell ?_ ?_ _) | (with_reducible refine below_via ‹_› ?_ ?_) | (with_reducible refine below_grow ?_ ?_ _ _) | omega | (simp; done) | (simp; omega))); done)) (by omega)).mono ?_
  rintro e w6 ⟨g6, rfl, hb6, hS6⟩
  obtain ⟨hc6, hf6⟩ := bcell hb6; have hz6 := hb6.size; (try simp at hz6); (try have hy : w.heap.size < w6.heap.size := by omega); (try have hy : w.heap.size ≤ w6.heap.size := by omega); (try have hy : w.heap.size + 1 < w6.heap.size := by omega); (try have hy : w.heap.size + 1 ≤ w6.heap.size := by omega); (try have hy : w.heap.size + 2 < w6.heap.size := by omega); (try have hy : w.heap.size + 2 ≤ w6.heap.size := by omega); (try have hy : w1.heap.size < w6.heap.size := by omega); (try have hy : w1.heap.size ≤ w6.heap.size := by omega); (try have hy : w2.heap.size < w6.heap.size := by omega); (try have hy : w2.heap.size ≤ w6.heap.size := by omega); (try have hy : w3.heap.size < w6.heap.size := by omega); (try have hy : w3.heap.size ≤ w6.heap.size := by omega); (try have hy : w4.heap.size < w6.heap.size := by omega); (try have hy : w4.heap.size ≤ w6.heap.size := by omega); (try have hy : w5.heap.size < w6.heap.size := by omega); (try have hy : w5.heap.size ≤ w6.heap.size := by omega)
  go_wp2_with fail
  refine (c_eqItemS _ _ _ _ _ _ (by first | (with_reducible assumption) | (with_reducible apply SlO.at; (with_reducible assumption); (repeat' (first | (with_reducible exact Below.refl _ _) | (with_reducible refine Below.alloc ?_ ?_ _) | (with_reducible refine Below.drew ?_) | (with_reducible refine below_drewN ?_ _) | (with_reducible refine Below.setCell ?_ ?_ _) | (with_reducible refine below_via ‹_› ?_ ?_) | (with_reducible refine below_grow ?_ ?_ _ _) | omega | (simp; done) | (simp; omega))); done) | (with_reducible apply SlA.at; (with_reducible assumption); (repeat' (first | (with_reducible exact Below.refl _ _) | (with_reducible refine Below.alloc ?_ ?_ _) | (with_reducible refine Below.drew ?_) | (with_reducible refine below_drewN ?_ _) | (with_reducible refine Below.setCell ?_ ?_ _) | (with_reducible refine below_via ‹_› ?_ ?_) | (with_reducible refine below_grow ?_ ?_ _ _) | omega | (simp; done) | (simp; omega))); done)) (by first | (with_reducible assumption) | (with_reducible apply SlO.at; (with_reducible assumption); (repeat' (first | (with_reducible exact Below.refl _ _) | (with_reducible refine Below.alloc ?_ ?_ _) | (with_reducible refine Below.drew ?_) | (with_reducible refine below_drewN ?_ _) | (with_reducible refine Below.setCell ?_ ?_ _) | (with_reducible refine below_via ‹_› ?_ ?_) | (with_reducible refine below_grow ?_ ?_ _ _) | omega | (simp; done) | (simp; omega))); done) | (with_reducible apply SlA.at; (with_reducible assumption); (repeat' (first | (with_reducible exact Below.refl _ _) | (with_reducible refine Below.alloc ?_ ?_ _) | (with_reducible refine Below.drew ?_) | (with_reducible refine below_drewN ?_ _) | (with_reducible refine Below.setCell ?_ ?_ _) | (with_reducible refine below_via ‹_› ?_ ?_) | (with_reducible refine below_grow ?_ ?_ _ _) | omega | (simp; done) | (simp; omega))); done))).mono ?_
  rintro e w7 ⟨rfl, hb7⟩
  obtain ⟨hc7, hf7⟩ := bcell hb7; have hz7 := hb7.size; (try simp at hz7); (try have hy : w.heap.size < w7.heap.size := by omega); (try have hy : w.heap.size ≤ w7.heap.size := by omega); (try have hy : w.heap.size + 1 < w7.heap.size := by omega); (try have hy : w.heap.size + 1 ≤ w7.heap.size := by omega); (try have hy : w.heap.size + 2 < w7.heap.size := by omega); (try have hy : w.heap.size + 2 ≤ w7.heap.size := by omega); (try have hy : w1.heap.size < w7.heap.size := by omega); (try have hy : w1.heap.size ≤ w7.heap.size := by omega); (try have hy : w2.heap.size < w7.heap.size := by omega); (try have hy : w2.heap.size ≤ w7.heap.size := by omega); (try have hy : w3.heap.size < w7.heap.size := by omega); (try have hy : w3.heap.size ≤ w7.heap.size := by omega); (try have hy : w4.heap.size < w7.heap.size := by omega); (try have hy : w4.heap.size ≤ w7.heap.size := by omega); (try have hy : w5.heap.size < w7.heap.size := by omega); (try have hy : w5.heap.size ≤ w7.heap.size := by omega); (try have hy : w6.heap.size < w7.heap.size := by omega); (try have hy : w6.heap.size ≤ w7.heap.size := by omega)
  go_wp2_with fail
  go_ret
  exact ⟨rfl, by (repeat' (first | (with_reducible exact Below.refl _ _) | (with_reducible refine Below.alloc ?_ ?_ _) | (with_reducible refine Below.drew ?_) | (with_reducible refine below_drewN ?_ _) | (with_reducible refine Below.setCell ?_ ?_ _) | (with_reducible refine below_via ‹_› ?_ ?_) | (with_reducible refine below_grow ?_ ?_ _ _) | omega | (simp; done) | (simp; omega)))⟩

open Go.ChangeShapes Go.WideShapes Go.ChangeAt
theorem own : ownKnob Tryd.prog.godebug = none := by kernel_rfl
theorem laidOut : laidOutB Tryd.prog = true := by kernel_rfl

set_option maxRecDepth 100000 in
theorem lifted (os : Os) (started : os.Started) (H : Type) (enc : TypeId × Value → H) :
    ReturnsInHanded {} Tryd.checked os 8 .any (fun w args => (Rows.fnExactSaveItemsSpec.pre enc Tryd.prog Tryd.f8 Rows.fnExactSaveItemsRow.domain false w args ∧ laidMetH Tryd.prog Rows.fnExactSaveItemsRow.laid w) ∧ sizedMet enc Tryd.prog Tryd.f8 (OpenSpec.ofChange Rows.fnExactSaveItemsSpec) false w args)
      (Rows.fnExactSaveItemsSpec.post enc Tryd.prog Tryd.f8 false true false false) := by
  refine returnsInHanded_of_change_and (C := Tryd.checked) (X := fun w _ => laidMetH Tryd.prog Rows.fnExactSaveItemsRow.laid w) (fun _ _ _ hh h => h.of_heap hh) own started (by kernel_rfl) Tryd.func8
    (ChangeSpec.witness_shaped (enc := enc) (C := Tryd.checked) (os := os) (X := fun w _ => laidMetH Tryd.prog Rows.fnExactSaveItemsRow.laid w) false (World.laidAll Tryd.prog os Rows.fnExactSaveItemsRow.laid) #[.slice none 0 0] 8 (World.laidAll_os _ _ _)
      (World.shaped_of_ZipB (by kernel_rfl) (by kernel_rfl)) (by kernel_rfl) (by kernel_rfl) (by kernel_rfl)
      (by rw [MakeChecks.laidMetH_plain _ _ _ (by kernel_rfl)]; exact laidMet_laidAll _ (by kernel_rfl) (by kernel_rfl))) ?_
  intro W base args ds gs before hval0 hW hcnd _ hL _
  rw [MakeChecks.laidMetH_plain _ _ _ (by kernel_rfl)] at hL
  have hPow : Pow W := pow_of_met hL
  have hval : ∀ (j : Nat) t v, Tryd.f8.params[j]? = some t → args[j]? = some v → Value.okWide Tryd.prog W .any base t v := hval0
  have hW' := hW
  obtain ⟨p, q, hA0, hV, rfl, hfz, hnd⟩ := hW
  have hA : DataW.TrodAll enc Tryd.prog W 0 (fun _ => true) true Tryd.f8.params.toList args.toList ds p := hA0
  rw [Tryd.params8] at hA hval
  obtain ⟨u0, vs0, e0, ds0, p0, q0, hargs, rfl, rfl, t0, r0⟩ := trodAll_cons hA
  obtain ⟨rfl, rfl, rfl⟩ := trodAll_nil r0
  obtain rfl : args = #[u0] := by cases args; simp_all
  obtain ⟨rfl, rfl⟩ := trodVars_none hV
  have t0' := t0
  have lt0 : ∀ x ∈ p0, x.block < W.heap.size := by obtain ⟨m, hm⟩ := t0'; exact DataW.trod_lt m _ _ _ hm
  obtain ⟨xs0, h0, k0⟩ := open_ItemS (hval 0 64 u0 rfl rfl) t0
  clear hA0 hval0
  refine (walk u0 xs0 W h0 k0 hPow).mono fun e W' ⟨he, bel⟩ => ?_
  subst he
  exact ⟨_, rfl, _, _, _, [], _, [], hW', trodAll_mk1 (shut_bool Tryd.underlying4 _), (trodAll_cons_mk (Below.trod laidOut (by kernel_rfl) (of_decide_eq_true (by kernel_rfl)) t0' bel lt0) trodAll_mk0), rfl, bel.frame _, fun h => by cases h⟩

theorem cf_inPlace : (Rows.fnExactSaveItemsRow.inPlace == Tryd.prog.inPlace 8) = true := by kernel_rfl
theorem cf_unfollowed : (Rows.fnExactSaveItemsRow.unfollowed == Tryd.prog.unfollowed 8) = true := by kernel_rfl
theorem cf_recurses : (Rows.fnExactSaveItemsRow.recurses == Tryd.prog.recurses 8) = true := by kernel_rfl
theorem cf_named : (Rows.fnExactSaveItemsRow.named == Tryd.prog.varsNamed 8) = true := by kernel_rfl
theorem cf_lifted : (Rows.fnExactSaveItemsRow.lifted == Tryd.prog.liftsFinal) = true := pf_lifted
theorem cf_plainKeys : (Rows.fnExactSaveItemsRow.plainKeys == Tryd.prog.plainKeys) = true := pf_plainKeys
set_option maxRecDepth 100000 in
theorem closed : joinedFacts Tryd.prog 8 Tryd.f8 Rows.fnExactSaveItemsSpec Rows.fnExactSaveItemsRow = true := by
  simp only [joinedFacts, cf_inPlace, cf_unfollowed, cf_recurses, cf_named, cf_lifted, cf_plainKeys, pf_stopsHeard, pf_mayEnter, pf_laidOut, pf_mapsRowed, Bool.and_true]
  kernel_rfl
theorem holds : Rows.FnExactSaveItemsSaid :=
  OpenClaim.holds_of_wide 8 Tryd.f8 rfl rfl rfl rfl rfl rfl rfl ⟨rfl, rfl, rfl, rfl, rfl⟩ rfl rfl rfl rfl rfl (by kernel_rfl) Tryd.func8 closed
    (of_decide_eq_true (by kernel_rfl)) (by unfold Func.isWrapper; first | (rw [if_pos (by decide +kernel)]; kernel_rfl) | (rw [if_neg (by decide +kernel)]; exact ⟨rfl, rfl⟩))
    (fun os started H enc _ => lifted os started H enc)
theorem proved : Rows.FnExactSaveItemsCardSaid :=
  Claim7.holds_tied_plain_at .later [] _ true _ true holds (fun _ h => by cases h) (by kernel_rfl) (fun _ h => by cases h) fnExactSaveItems_row_tie rfl ⟨rfl, rfl⟩ (by kernel_rfl) rfl
    (fun f fn hf hfn => by
      obtain rfl : f = 8 := Option.some.inj ((show Tryd.prog.funcNamed Rows.fnExactSaveItemsRow.func = some 8 by kernel_rfl).symm.trans hf) |>.symm
      obtain rfl : fn = Tryd.f8 := (Option.some.inj (Tryd.func8.symm.trans hfn)).symm
      exact ⟨by kernel_rfl, fun j t ht => by
        rw [Tryd.params8] at ht
        have hm : t ∈ [64] := by simpa using Array.mem_of_getElem? ht
        have hall : ([64].all fun u => !Tryd.prog.wantsStandIn u) = true := by kernel_rfl
        exact (show Tryd.prog.wantsStandIn t = false by simpa using List.all_eq_true.1 hall t hm)⟩)
    (by kernel_rfl)
#print axioms proved
end Go.Proofs.YtfnfkpmkppkleaaDoor.lawSaveItems
