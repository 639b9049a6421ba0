/- Character: a struct that holds slices: its data, how it reads, its copy, size and equality; slices of it. Printed by wip/gennest.py. -/
import Derived.Test.YtjibilibdjfdcaaNames
import Derived.Test.YtjibilibdjfdcaaSl
import Derived.StillTailTactics
import Derived.Test.YtjibilibdjfdcaaTInt64
import Derived.Test.YtjibilibdjfdcaaTSector
namespace Go.Proofs.Ytjibilibdjfdcaa
open Go.RowKit
set_option linter.unusedVariables false
set_option maxRecDepth 100000

theorem szV_two (n m : Int) : (n - m < 0 ∧ szV n m = -1) ∨ (0 ≤ n - m ∧ szV n m = n - m) := by unfold szV; split <;> omega
theorem PartC.retype {w : World} {g c : Nat} {cs cs' : List Value} (h : PartC w g cs c) (hl : cs'.length = cs.length) (he : ∀ j, j < c → cs'.getD j undef = cs.getD j undef) : PartC w g cs' c := by
  obtain ⟨h1, h2, h3, h4, h5⟩ := h
  exact ⟨h1, by omega, h3, fun j hj => h4 j (by omega), fun j hj => by rw [he j hj]; exact h5 j hj⟩
theorem SlO.viaB {α : Type} {w w' : World} {lo n : Nat} {enc : α → List Value} {v : Value} {xs : List α} (hb : Below w.heap.size w w') (h : SlO w lo n enc v xs) : SlO w' lo n enc v xs := h.below hb (Nat.le_refl _)
theorem snoc_all {α : Type} {R : Nat → α → Prop} {ys : List α} {y : α} (h : ∀ i, (hi : i < ys.length) → R i ys[i]) (hy : R ys.length y) : ∀ i, (hi : i < (ys ++ [y]).length) → R i (ys ++ [y])[i] := fun i hi => by
  by_cases hlt : i < ys.length
  · rw [List.getElem_append_left hlt]; exact h i hlt
  · have e : i = ys.length := by simp at hi; omega
    subst e
    simpa using hy
structure CharacterD where
  fKind : Int
  aGroup : Option Addr
  fGroup : List Int
  cGroup : Nat
  fLetter : ByteArray
  fColors : ByteArray
  fPeriod : Int
def encCharacter (d : CharacterD) : List Value := [.int .i64 d.fKind, .slice d.aGroup d.fGroup.length d.cGroup, .string d.fLetter, .string d.fColors, .int .i64 d.fPeriod]
def okCharacter (d : CharacterD) : Prop := I64 d.fKind ∧ (∀ x ∈ d.fGroup, I64 x) ∧ d.fLetter.size ≤ maxLen ∧ d.fColors.size ≤ maxLen ∧ I64 d.fPeriod
def inCharacter (w : World) (lo : Nat) (d : CharacterD) : Prop := SlA w lo 1 encI (.slice d.aGroup d.fGroup.length d.cGroup) d.fGroup
def ownCharacter (w : World) (lo : Nat) (d : CharacterD) : Prop := SlO w lo 1 encI (.slice d.aGroup d.fGroup.length d.cGroup) d.fGroup
def sameCharacter (d d' : CharacterD) : Prop := d.fKind = d'.fKind ∧ d.fGroup = d'.fGroup ∧ d.fLetter = d'.fLetter ∧ d.fColors = d'.fColors ∧ d.fPeriod = d'.fPeriod
theorem inCharacter.below {w w' : World} {lo B : Nat} {d : CharacterD} (h : inCharacter w lo d) (hb : Below B w w') (hB : w.heap.size ≤ B) : inCharacter w' lo d := SlA.below h hb hB
theorem inCharacter.mono {w : World} {lo lo' : Nat} {d : CharacterD} (h : inCharacter w lo d) (hl : lo' ≤ lo) : inCharacter w lo' d := SlA.mono h hl
theorem ownCharacter.below {w w' : World} {lo B : Nat} {d : CharacterD} (h : ownCharacter w lo d) (hb : Below B w w') (hB : w.heap.size ≤ B) : ownCharacter w' lo d := SlO.below h hb hB
theorem ownCharacter.mono {w : World} {lo lo' : Nat} {d : CharacterD} (h : ownCharacter w lo d) (hl : lo' ≤ lo) : ownCharacter w lo' d := SlO.mono h hl
theorem ownCharacter.in {w : World} {lo : Nat} {d : CharacterD} (h : ownCharacter w lo d) : inCharacter w lo d := And.left h
theorem ownCharacter.setLt {w : World} {lo : Nat} {d : CharacterD} (h : ownCharacter w lo d) {p : Addr} (hp : p.block < lo) (u : Value) : ownCharacter (w.setCell p u) lo d := SlO.setLt h hp u
theorem lenCharacter (d : CharacterD) : (encCharacter d).length = 5 := rfl

theorem cells_Character : Try.prog.cellsOf 52 = 5 := by kernel_rfl
theorem cells_L_Character : Try.prog.cellsOf 34 = 1 := by kernel_rfl
theorem rds_Character {w : World} {cs : List Value} (h : Rds Try.prog w 52 cs) : ∃ d : CharacterD, cs = encCharacter d ∧ okCharacter d ∧ inCharacter w 0 d := by
  obtain ⟨hl, hf⟩ := Rds.st Try.underlying52 h
  rw [cells_Character] at hl
  have e : ∃ c0 c1 c2 c3 c4, cs = [c0, c1, c2, c3, c4] := by
    match cs, hl with
    | [c0, c1, c2, c3, c4], _ => exact ⟨c0, c1, c2, c3, c4, rfl⟩
  obtain ⟨c0, c1, c2, c3, c4, rfl⟩ := e
  simp only [List.mem_cons, List.not_mem_nil, or_false, forall_eq_or_imp, forall_eq, cells_L_Character, cells_int64, cells_string] at hf
  obtain ⟨h0, h1, h2, h3, h4⟩ := hf
  obtain ⟨x0, e0, w0⟩ := Rds.int Try.underlying2 h0
  simp at e0
  subst e0
  obtain ⟨x1, s1, w1⟩ := SlA.of_rds (v := c1) (enc := encI) Try.underlying34 cells_int64 (by omega) (fun es h => rds_Int64 h) h1
  obtain ⟨a1, k1, rfl⟩ := s1.form
  obtain ⟨x2, e2, w2⟩ := Rds.str Try.underlying9 h2
  simp at e2
  subst e2
  obtain ⟨x3, e3, w3⟩ := Rds.str Try.underlying9 h3
  simp at e3
  subst e3
  obtain ⟨x4, e4, w4⟩ := Rds.int Try.underlying2 h4
  simp at e4
  subst e4
  exact ⟨⟨x0, a1, x1, k1, x2, x3, x4⟩, rfl, ⟨i64_of w0, w1, w2, w3, i64_of w4⟩, s1⟩
set_option maxHeartbeats 1000000 in
theorem c_toCharacter (xKind : Int) (aGroup : Option Addr) (xGroup : List Int) (cGroup : Nat) (xLetter : ByteArray) (xColors : ByteArray) (xPeriod : Int) (w : World) (hGroup : SlA w 0 1 encI (.slice aGroup xGroup.length cGroup) xGroup) (lGroup : xGroup.length ≤ 1048576) :
    Calls Try.prog 45 #[.agg #[.int .i64 xKind, .slice aGroup xGroup.length cGroup, .string xLetter, .string xColors, .int .i64 xPeriod]] w fun e w' => ∃ gGroup : Nat, e = .returned (.agg #[.int .i64 xKind, .slice (some ⟨gGroup, 0, none⟩) xGroup.length xGroup.length, .string xLetter, .string xColors, .int .i64 xPeriod]) ∧ Below w.heap.size w w' ∧ SlO w' w.heap.size 1 encI (.slice (some ⟨gGroup, 0, none⟩) xGroup.length xGroup.length) xGroup := by
  go_enter Try.func45, Try.ntmps45
  go_wp2_with fail
  refine (c_toInt64S _ xGroup _ (hGroup.at (by (repeat' (first | (with_reducible exact Below.refl _ _) | (with_reducible refine Below.alloc ?_ ?_ _) | (with_reducible refine Below.drew ?_) | (with_reducible refine below_drewN ?_ _) | (with_reducible refine Below.setCell ?_ ?_ _) | (with_reducible refine below_via ‹_› ?_ ?_) | (with_reducible refine below_grow ?_ ?_ _ _) | omega | (simp; done) | (simp; omega))))) lGroup).mono ?_
  rintro e w1 ⟨gGroup, rfl, hb1, oGroup⟩
  have pGroup := SlO.mono oGroup (show w.heap.size + 3 ≤ _ by first | omega | (simp; done) | (simp; omega))
  obtain ⟨hc1, hf1⟩ := bcell hb1; have hz1 := hb1.size; (try simp at hz1); (try have hy : w.heap.size < w1.heap.size := by omega); (try have hy : w.heap.size ≤ w1.heap.size := by omega); (try have hy : w.heap.size + 1 < w1.heap.size := by omega); (try have hy : w.heap.size + 1 ≤ w1.heap.size := by omega); (try have hy : w.heap.size + 2 < w1.heap.size := by omega); (try have hy : w.heap.size + 2 ≤ w1.heap.size := by omega)
  go_wp2_with fail
  refine bodyPost_ret (v := .agg #[.int .i64 xKind, .slice (some ⟨gGroup, 0, none⟩) xGroup.length xGroup.length, .string xLetter, .string xColors, .int .i64 xPeriod]) (by simp [results, Try.results45, go_sem, *]) rfl ⟨_, rfl, by (repeat' (first | (with_reducible exact Below.refl _ _) | (with_reducible refine Below.alloc ?_ ?_ _) | (with_reducible refine Below.drew ?_) | (with_reducible refine below_drewN ?_ _) | (with_reducible refine Below.setCell ?_ ?_ _) | (with_reducible refine below_via ‹_› ?_ ?_) | (with_reducible refine below_grow ?_ ?_ _ _) | omega | (simp; done) | (simp; omega))), ?_⟩
  · refine SlO.mono (lo := w.heap.size + 3) ?_ (Nat.le_add_right _ _)
    repeat' (first | (with_reducible exact pGroup) | (with_reducible refine SlO.setLt ?_ ?_ _) | (with_reducible apply SlO.viaB; with_reducible assumption) | (simp; done) | omega | (simp; omega))
def sizeCharacter (d : CharacterD) : Int := (d.fGroup.length : Int) + (d.fLetter.size : Int) + (d.fColors.size : Int)
theorem sizeCharacter_nn (d : CharacterD) : 0 ≤ sizeCharacter d := by unfold sizeCharacter; omega
set_option maxHeartbeats 1000000 in
theorem c_szCharacter (xKind : Int) (aGroup : Option Addr) (xGroup : List Int) (cGroup : Nat) (xLetter : ByteArray) (xColors : ByteArray) (xPeriod : Int) (n : Int) (w : World) (hGroup : SlA w 0 1 encI (.slice aGroup xGroup.length cGroup) xGroup) (hxLetter : xLetter.size ≤ maxLen) (hxColors : xColors.size ≤ maxLen)  (h0 : -1 ≤ n) (h1 : n ≤ 1048576) :
    Calls Try.prog 39 #[.agg #[.int .i64 xKind, .slice aGroup xGroup.length cGroup, .string xLetter, .string xColors, .int .i64 xPeriod], .int .i64 n] w fun e w' => e = .returned (.int .i64 (szV n ((xGroup.length : Int) + (xLetter.size : Int) + (xColors.size : Int)))) ∧ Below w.heap.size w w' := by
  unfold maxLen at hxLetter hxColors
  go_enter Try.func39, Try.ntmps39
  have ea0 := szV_two n xGroup.length
  go_wp2_with (first | (go_at_call 53; refine (c_szInt64S _ _ _ _ (hGroup.at (by (repeat' (first | (with_reducible exact Below.refl _ _) | (with_reducible refine Below.alloc ?_ ?_ _) | (with_reducible refine Below.drew ?_) | (with_reducible refine below_drewN ?_ _) | (with_reducible refine Below.setCell ?_ ?_ _) | (with_reducible refine below_via ‹_› ?_ ?_) | (with_reducible refine below_grow ?_ ?_ _ _) | omega | (simp; done) | (simp; omega))))) (by omega) (by omega)).mono ?_; rintro e w1 ⟨rfl, hb⟩; obtain ⟨hc, hf⟩ := bcell hb; have hz := hb.size; (try simp at hz); (try have hz0 : ∀ b, b < w.heap.size → b < w1.heap.size := fun b h => by omega); (try have hz1 : w.heap.size < w1.heap.size := by omega); (try have hz2 : w.heap.size + 1 < w1.heap.size := by omega); (try have hz3 : w.heap.size + 2 < w1.heap.size := by omega)))
  all_goals (go_ret; go_light; have eb := szV_two n ((xGroup.length : Int) + (xLetter.size : Int) + (xColors.size : Int)); exact ⟨ret_int (by omega), by (repeat' (first | (with_reducible exact Below.refl _ _) | (with_reducible refine Below.alloc ?_ ?_ _) | (with_reducible refine Below.drew ?_) | (with_reducible refine below_drewN ?_ _) | (with_reducible refine Below.setCell ?_ ?_ _) | (with_reducible refine below_via ‹_› ?_ ?_) | (with_reducible refine below_grow ?_ ?_ _ _) | omega | (simp; done) | (simp; omega)))⟩)
set_option maxHeartbeats 1000000 in
theorem c_eqCharacter (xKind : Int) (aGroup : Option Addr) (xGroup : List Int) (cGroup : Nat) (xLetter : ByteArray) (xColors : ByteArray) (xPeriod : Int) (bGroup : Option Addr) (qGroup : Nat) (lo lo' : Nat) (w : World) (hGroup : SlA w lo 1 encI (.slice aGroup xGroup.length cGroup) xGroup) (h'Group : SlA w lo' 1 encI (.slice bGroup xGroup.length qGroup) xGroup) :
    Calls Try.prog 51 #[.agg #[.int .i64 xKind, .slice aGroup xGroup.length cGroup, .string xLetter, .string xColors, .int .i64 xPeriod], .agg #[.int .i64 xKind, .slice bGroup xGroup.length qGroup, .string xLetter, .string xColors, .int .i64 xPeriod]] w fun e w' => e = .returned (.bool true) ∧ Below w.heap.size w w' := by
  go_enter Try.func51, Try.ntmps51
  go_wp2_with (first | (go_at_call 14; refine (c_eqInt64S _ _ lo lo' xGroup _ (hGroup.at (by (repeat' (first | (with_reducible exact Below.refl _ _) | (with_reducible refine Below.alloc ?_ ?_ _) | (with_reducible refine Below.drew ?_) | (with_reducible refine below_drewN ?_ _) | (with_reducible refine Below.setCell ?_ ?_ _) | (with_reducible refine below_via ‹_› ?_ ?_) | (with_reducible refine below_grow ?_ ?_ _ _) | omega | (simp; done) | (simp; omega))))) (h'Group.at (by (repeat' (first | (with_reducible exact Below.refl _ _) | (with_reducible refine Below.alloc ?_ ?_ _) | (with_reducible refine Below.drew ?_) | (with_reducible refine below_drewN ?_ _) | (with_reducible refine Below.setCell ?_ ?_ _) | (with_reducible refine below_via ‹_› ?_ ?_) | (with_reducible refine below_grow ?_ ?_ _ _) | omega | (simp; done) | (simp; omega)))))).mono ?_; rintro e w1 ⟨rfl, hb⟩; obtain ⟨hc, hf⟩ := bcell hb; have hz := hb.size; (try simp at hz); (try have hz0 : ∀ b, b < w.heap.size → b < w1.heap.size := fun b h => by omega); (try have hz1 : w.heap.size < w1.heap.size := by omega); (try have hz2 : w.heap.size + 1 < w1.heap.size := by omega); (try have hz3 : w.heap.size + 2 < w1.heap.size := by omega)))
  go_ret
  exact ⟨rfl, by (repeat' (first | (with_reducible exact Below.refl _ _) | (with_reducible refine Below.alloc ?_ ?_ _) | (with_reducible refine Below.drew ?_) | (with_reducible refine below_drewN ?_ _) | (with_reducible refine Below.setCell ?_ ?_ _) | (with_reducible refine below_via ‹_› ?_ ?_) | (with_reducible refine below_grow ?_ ?_ _ _) | omega | (simp; done) | (simp; omega)))⟩
end Go.Proofs.Ytjibilibdjfdcaa
