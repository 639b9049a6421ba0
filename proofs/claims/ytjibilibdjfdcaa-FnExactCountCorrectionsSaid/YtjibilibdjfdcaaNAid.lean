/- Aid: a struct that holds slices: its data, how it reads, its copy, size and equality; slices of it. Printed by wip/gennest.py. -/
import Derived.Test.YtjibilibdjfdcaaNames
import Derived.Test.YtjibilibdjfdcaaSl
import Derived.StillTailTactics
import Derived.Test.YtjibilibdjfdcaaTPoint
import Derived.Test.YtjibilibdjfdcaaTMark
import Derived.Test.YtjibilibdjfdcaaNCharacter
import Derived.Test.YtjibilibdjfdcaaTInt64
import Derived.Test.YtjibilibdjfdcaaTSector
namespace Go.Proofs.Ytjibilibdjfdcaa
open Go.RowKit
set_option linter.unusedVariables false
set_option maxRecDepth 100000

structure AidD where
  fNumber : Int
  fName : ByteArray
  fAtX : Int
  fAtY : Int
  fHeight : Int
  fMarkKind : Int
  fMarkColors : ByteArray
  fMarkShape : ByteArray
  fMarkTopmark : ByteArray
  fLightKind : Int
  aLightGroup : Option Addr
  fLightGroup : List Int
  cLightGroup : Nat
  fLightLetter : ByteArray
  fLightColors : ByteArray
  fLightPeriod : Int
  aSectors : Option Addr
  fSectors : List SectorD
  cSectors : Nat
  fIntensity : Int
def encAid (d : AidD) : List Value := [.int .i64 d.fNumber, .string d.fName, .int .i64 d.fAtX, .int .i64 d.fAtY, .int .i64 d.fHeight, .int .i64 d.fMarkKind, .string d.fMarkColors, .string d.fMarkShape, .string d.fMarkTopmark, .int .i64 d.fLightKind, .slice d.aLightGroup d.fLightGroup.length d.cLightGroup, .string d.fLightLetter, .string d.fLightColors, .int .i64 d.fLightPeriod, .slice d.aSectors d.fSectors.length d.cSectors, .int .i64 d.fIntensity]
def okAid (d : AidD) : Prop := I64 d.fNumber ∧ d.fName.size ≤ maxLen ∧ I64 d.fAtX ∧ I64 d.fAtY ∧ I64 d.fHeight ∧ I64 d.fMarkKind ∧ d.fMarkColors.size ≤ maxLen ∧ d.fMarkShape.size ≤ maxLen ∧ d.fMarkTopmark.size ≤ maxLen ∧ I64 d.fLightKind ∧ (∀ x ∈ d.fLightGroup, I64 x) ∧ d.fLightLetter.size ≤ maxLen ∧ d.fLightColors.size ≤ maxLen ∧ I64 d.fLightPeriod ∧ (∀ x ∈ d.fSectors, okSector x) ∧ I64 d.fIntensity
def inAid (w : World) (lo : Nat) (d : AidD) : Prop := SlA w lo 1 encI (.slice d.aLightGroup d.fLightGroup.length d.cLightGroup) d.fLightGroup ∧ SlA w lo 3 encSector (.slice d.aSectors d.fSectors.length d.cSectors) d.fSectors
def ownAid (w : World) (lo : Nat) (d : AidD) : Prop := SlO w lo 1 encI (.slice d.aLightGroup d.fLightGroup.length d.cLightGroup) d.fLightGroup ∧ SlO w lo 3 encSector (.slice d.aSectors d.fSectors.length d.cSectors) d.fSectors
def sameAid (d d' : AidD) : Prop := d.fNumber = d'.fNumber ∧ d.fName = d'.fName ∧ d.fAtX = d'.fAtX ∧ d.fAtY = d'.fAtY ∧ d.fHeight = d'.fHeight ∧ d.fMarkKind = d'.fMarkKind ∧ d.fMarkColors = d'.fMarkColors ∧ d.fMarkShape = d'.fMarkShape ∧ d.fMarkTopmark = d'.fMarkTopmark ∧ d.fLightKind = d'.fLightKind ∧ d.fLightGroup = d'.fLightGroup ∧ d.fLightLetter = d'.fLightLetter ∧ d.fLightColors = d'.fLightColors ∧ d.fLightPeriod = d'.fLightPeriod ∧ d.fSectors = d'.fSectors ∧ d.fIntensity = d'.fIntensity
theorem inAid.below {w w' : World} {lo B : Nat} {d : AidD} (h : inAid w lo d) (hb : Below B w w') (hB : w.heap.size ≤ B) : inAid w' lo d := ⟨SlA.below h.1 hb hB, SlA.below h.2 hb hB⟩
theorem inAid.mono {w : World} {lo lo' : Nat} {d : AidD} (h : inAid w lo d) (hl : lo' ≤ lo) : inAid w lo' d := ⟨SlA.mono h.1 hl, SlA.mono h.2 hl⟩
theorem ownAid.below {w w' : World} {lo B : Nat} {d : AidD} (h : ownAid w lo d) (hb : Below B w w') (hB : w.heap.size ≤ B) : ownAid w' lo d := ⟨SlO.below h.1 hb hB, SlO.below h.2 hb hB⟩
theorem ownAid.mono {w : World} {lo lo' : Nat} {d : AidD} (h : ownAid w lo d) (hl : lo' ≤ lo) : ownAid w lo' d := ⟨SlO.mono h.1 hl, SlO.mono h.2 hl⟩
theorem ownAid.in {w : World} {lo : Nat} {d : AidD} (h : ownAid w lo d) : inAid w lo d := ⟨h.1.1, h.2.1⟩
theorem ownAid.setLt {w : World} {lo : Nat} {d : AidD} (h : ownAid w lo d) {p : Addr} (hp : p.block < lo) (u : Value) : ownAid (w.setCell p u) lo d := ⟨SlO.setLt h.1 hp u, SlO.setLt h.2 hp u⟩
theorem lenAid (d : AidD) : (encAid d).length = 16 := rfl

theorem cells_Aid : Try.prog.cellsOf 55 = 16 := by kernel_rfl
theorem cells_S_Aid : Try.prog.cellsOf 53 = 1 := by kernel_rfl
theorem rds_Aid {w : World} {cs : List Value} (h : Rds Try.prog w 55 cs) : ∃ d : AidD, cs = encAid d ∧ okAid d ∧ inAid w 0 d := by
  obtain ⟨hl, hf⟩ := Rds.st Try.underlying55 h
  rw [cells_Aid] at hl
  have e : ∃ c0 c1 c2 c3 c4 c5 c6 c7 c8 c9 c10 c11 c12 c13 c14 c15, cs = [c0, c1, c2, c3, c4, c5, c6, c7, c8, c9, c10, c11, c12, c13, c14, c15] := by
    match cs, hl with
    | [c0, c1, c2, c3, c4, c5, c6, c7, c8, c9, c10, c11, c12, c13, c14, c15], _ => exact ⟨c0, c1, c2, c3, c4, c5, c6, c7, c8, c9, c10, c11, c12, c13, c14, c15, rfl⟩
  obtain ⟨c0, c1, c2, c3, c4, c5, c6, c7, c8, c9, c10, c11, c12, c13, c14, c15, rfl⟩ := e
  simp only [List.mem_cons, List.not_mem_nil, or_false, forall_eq_or_imp, forall_eq, cells_Character, cells_Mark, cells_Point, cells_S_Aid, cells_int64, cells_string] at hf
  obtain ⟨h0, h1, h2, h3, h4, h5, h6, h7⟩ := hf
  obtain ⟨x0, e0, w0⟩ := Rds.int Try.underlying2 h0
  simp at e0
  subst e0
  obtain ⟨x1, e1, w1⟩ := Rds.str Try.underlying9 h1
  simp at e1
  subst e1
  obtain ⟨y2, e2, w2⟩ := rds_Point h2
  simp [encPoint] at e2
  obtain ⟨rfl, rfl⟩ := e2
  obtain ⟨x4, e4, w4⟩ := Rds.int Try.underlying2 h3
  simp at e4
  subst e4
  obtain ⟨y5, e5, w5⟩ := rds_Mark h4
  simp [encMark] at e5
  obtain ⟨rfl, rfl, rfl, rfl⟩ := e5
  obtain ⟨y9, e9, w9, z9⟩ := rds_Character h5
  simp [encCharacter] at e9
  obtain ⟨rfl, rfl, rfl, rfl, rfl⟩ := e9
  obtain ⟨x14, s14, w14⟩ := SlA.of_rds (v := c14) (enc := encSector) Try.underlying53 cells_Sector (by omega) (fun es h => rds_Sector h) h6
  obtain ⟨a14, k14, rfl⟩ := s14.form
  obtain ⟨x15, e15, w15⟩ := Rds.int Try.underlying2 h7
  simp at e15
  subst e15
  exact ⟨⟨x0, x1, y2.fX, y2.fY, x4, y5.fKind, y5.fColors, y5.fShape, y5.fTopmark, y9.fKind, y9.aGroup, y9.fGroup, y9.cGroup, y9.fLetter, y9.fColors, y9.fPeriod, a14, x14, k14, x15⟩, rfl, ⟨i64_of w0, w1, w2.1, w2.2, i64_of w4, w5.1, w5.2.1, w5.2.2.1, w5.2.2.2, w9.1, w9.2.1, w9.2.2.1, w9.2.2.2.1, w9.2.2.2.2, w14, i64_of w15⟩, ⟨z9, s14⟩⟩
theorem open_AidS {H : Type} {enc : TypeId × Value → H} {W : World} {base : Nat} {v : Value} {d : DataW H} {p : List MemPlace} (hv : Value.okWide Try.prog W .any base 22 v) (h : DataW.Trod enc Try.prog W 0 (fun _ => true) true 22 v d p) :
    ∃ xs : List AidD, SlA W 0 16 encAid v xs ∧ ∀ x ∈ xs, okAid x ∧ inAid W 0 x := by
  obtain ⟨a, len, cap, rfl⟩ := WideShapes.okWide_slice Try.underlying22 hv
  exact SlA.of_rds (ok := fun x => okAid x ∧ inAid W 0 x) Try.underlying22 cells_Aid (by omega) (fun es h => rds_Aid h) (rds_arg h)
set_option maxHeartbeats 1000000 in
theorem c_toAid (xNumber : Int) (xName : ByteArray) (xAtX : Int) (xAtY : Int) (xHeight : Int) (xMarkKind : Int) (xMarkColors : ByteArray) (xMarkShape : ByteArray) (xMarkTopmark : ByteArray) (xLightKind : Int) (aLightGroup : Option Addr) (xLightGroup : List Int) (cLightGroup : Nat) (xLightLetter : ByteArray) (xLightColors : ByteArray) (xLightPeriod : Int) (aSectors : Option Addr) (xSectors : List SectorD) (cSectors : Nat) (xIntensity : Int) (w : World) (hLightGroup : SlA w 0 1 encI (.slice aLightGroup xLightGroup.length cLightGroup) xLightGroup) (hSectors : SlA w 0 3 encSector (.slice aSectors xSectors.length cSectors) xSectors) (lLightGroup : xLightGroup.length ≤ 1048576) (lSectors : xSectors.length ≤ 1048576) :
    Calls Try.prog 33 #[.agg #[.int .i64 xNumber, .string xName, .int .i64 xAtX, .int .i64 xAtY, .int .i64 xHeight, .int .i64 xMarkKind, .string xMarkColors, .string xMarkShape, .string xMarkTopmark, .int .i64 xLightKind, .slice aLightGroup xLightGroup.length cLightGroup, .string xLightLetter, .string xLightColors, .int .i64 xLightPeriod, .slice aSectors xSectors.length cSectors, .int .i64 xIntensity]] w fun e w' => ∃ gLightGroup gSectors : Nat, e = .returned (.agg #[.int .i64 xNumber, .string xName, .int .i64 xAtX, .int .i64 xAtY, .int .i64 xHeight, .int .i64 xMarkKind, .string xMarkColors, .string xMarkShape, .string xMarkTopmark, .int .i64 xLightKind, .slice (some ⟨gLightGroup, 0, none⟩) xLightGroup.length xLightGroup.length, .string xLightLetter, .string xLightColors, .int .i64 xLightPeriod, .slice (some ⟨gSectors, 0, none⟩) xSectors.length xSectors.length, .int .i64 xIntensity]) ∧ Below w.heap.size w w' ∧ SlO w' w.heap.size 1 encI (.slice (some ⟨gLightGroup, 0, none⟩) xLightGroup.length xLightGroup.length) xLightGroup ∧ SlO w' w.heap.size 3 encSector (.slice (some ⟨gSectors, 0, none⟩) xSectors.length xSectors.length) xSectors := by
  go_enter Try.func33, Try.ntmps33
  go_wp2_with fail
  refine (c_toPoint xAtX xAtY _).mono ?_
  rintro e w1 ⟨rfl, hb1⟩
  obtain ⟨hc1, hf1⟩ := bcell hb1; have hz1 := hb1.size; (try simp at hz1); (try have hy : w.heap.size < w1.heap.size := by omega); (try have hy : w.heap.size ≤ w1.heap.size := by omega); (try have hy : w.heap.size + 1 < w1.heap.size := by omega); (try have hy : w.heap.size + 1 ≤ w1.heap.size := by omega); (try have hy : w.heap.size + 2 < w1.heap.size := by omega); (try have hy : w.heap.size + 2 ≤ w1.heap.size := by omega)
  go_wp2_with fail
  refine (c_toMark xMarkKind xMarkColors xMarkShape xMarkTopmark _).mono ?_
  rintro e w2 ⟨rfl, hb2⟩
  obtain ⟨hc2, hf2⟩ := bcell hb2; have hz2 := hb2.size; (try simp at hz2); (try have hy : w.heap.size < w2.heap.size := by omega); (try have hy : w.heap.size ≤ w2.heap.size := by omega); (try have hy : w.heap.size + 1 < w2.heap.size := by omega); (try have hy : w.heap.size + 1 ≤ w2.heap.size := by omega); (try have hy : w.heap.size + 2 < w2.heap.size := by omega); (try have hy : w.heap.size + 2 ≤ w2.heap.size := by omega); (try have hy : w1.heap.size < w2.heap.size := by omega); (try have hy : w1.heap.size ≤ w2.heap.size := by omega)
  go_wp2_with fail
  refine (c_toCharacter xLightKind aLightGroup xLightGroup cLightGroup xLightLetter xLightColors xLightPeriod _ (hLightGroup.at (by (repeat' (first | (with_reducible exact Below.refl _ _) | (with_reducible refine Below.alloc ?_ ?_ _) | (with_reducible refine Below.drew ?_) | (with_reducible refine below_drewN ?_ _) | (with_reducible refine Below.setCell ?_ ?_ _) | (with_reducible refine below_via ‹_› ?_ ?_) | (with_reducible refine below_grow ?_ ?_ _ _) | omega | (simp; done) | (simp; omega))))) lLightGroup).mono ?_
  rintro e w3 ⟨gLightGroup, rfl, hb3, oLightGroup⟩
  have pLightGroup := SlO.mono oLightGroup (show w.heap.size + 3 ≤ _ by first | omega | (simp; done) | (simp; omega))
  obtain ⟨hc3, hf3⟩ := bcell hb3; have hz3 := hb3.size; (try simp at hz3); (try have hy : w.heap.size < w3.heap.size := by omega); (try have hy : w.heap.size ≤ w3.heap.size := by omega); (try have hy : w.heap.size + 1 < w3.heap.size := by omega); (try have hy : w.heap.size + 1 ≤ w3.heap.size := by omega); (try have hy : w.heap.size + 2 < w3.heap.size := by omega); (try have hy : w.heap.size + 2 ≤ w3.heap.size := by omega); (try have hy : w1.heap.size < w3.heap.size := by omega); (try have hy : w1.heap.size ≤ w3.heap.size := by omega); (try have hy : w2.heap.size < w3.heap.size := by omega); (try have hy : w2.heap.size ≤ w3.heap.size := by omega)
  go_wp2_with fail
  refine (c_toSectorS _ xSectors _ (hSectors.at (by (repeat' (first | (with_reducible exact Below.refl _ _) | (with_reducible refine Below.alloc ?_ ?_ _) | (with_reducible refine Below.drew ?_) | (with_reducible refine below_drewN ?_ _) | (with_reducible refine Below.setCell ?_ ?_ _) | (with_reducible refine below_via ‹_› ?_ ?_) | (with_reducible refine below_grow ?_ ?_ _ _) | omega | (simp; done) | (simp; omega))))) lSectors).mono ?_
  rintro e w4 ⟨gSectors, rfl, hb4, oSectors⟩
  have pSectors := SlO.mono oSectors (show w.heap.size + 3 ≤ _ by first | omega | (simp; done) | (simp; omega))
  obtain ⟨hc4, hf4⟩ := bcell hb4; have hz4 := hb4.size; (try simp at hz4); (try have hy : w.heap.size < w4.heap.size := by omega); (try have hy : w.heap.size ≤ w4.heap.size := by omega); (try have hy : w.heap.size + 1 < w4.heap.size := by omega); (try have hy : w.heap.size + 1 ≤ w4.heap.size := by omega); (try have hy : w.heap.size + 2 < w4.heap.size := by omega); (try have hy : w.heap.size + 2 ≤ w4.heap.size := by omega); (try have hy : w1.heap.size < w4.heap.size := by omega); (try have hy : w1.heap.size ≤ w4.heap.size := by omega); (try have hy : w2.heap.size < w4.heap.size := by omega); (try have hy : w2.heap.size ≤ w4.heap.size := by omega); (try have hy : w3.heap.size < w4.heap.size := by omega); (try have hy : w3.heap.size ≤ w4.heap.size := by omega)
  go_wp2_with fail
  refine bodyPost_ret (v := .agg #[.int .i64 xNumber, .string xName, .int .i64 xAtX, .int .i64 xAtY, .int .i64 xHeight, .int .i64 xMarkKind, .string xMarkColors, .string xMarkShape, .string xMarkTopmark, .int .i64 xLightKind, .slice (some ⟨gLightGroup, 0, none⟩) xLightGroup.length xLightGroup.length, .string xLightLetter, .string xLightColors, .int .i64 xLightPeriod, .slice (some ⟨gSectors, 0, none⟩) xSectors.length xSectors.length, .int .i64 xIntensity]) (by simp [results, Try.results33, go_sem, *]) rfl ⟨_, _, rfl, by (repeat' (first | (with_reducible exact Below.refl _ _) | (with_reducible refine Below.alloc ?_ ?_ _) | (with_reducible refine Below.drew ?_) | (with_reducible refine below_drewN ?_ _) | (with_reducible refine Below.setCell ?_ ?_ _) | (with_reducible refine below_via ‹_› ?_ ?_) | (with_reducible refine below_grow ?_ ?_ _ _) | omega | (simp; done) | (simp; omega))), ?_, ?_⟩
  · refine SlO.mono (lo := w.heap.size + 3) ?_ (Nat.le_add_right _ _)
    repeat' (first | (with_reducible exact pLightGroup) | (with_reducible refine SlO.setLt ?_ ?_ _) | (with_reducible apply SlO.viaB; with_reducible assumption) | (simp; done) | omega | (simp; omega))
  · refine SlO.mono (lo := w.heap.size + 3) ?_ (Nat.le_add_right _ _)
    repeat' (first | (with_reducible exact pSectors) | (with_reducible refine SlO.setLt ?_ ?_ _) | (with_reducible apply SlO.viaB; with_reducible assumption) | (simp; done) | omega | (simp; omega))
def sizeAid (d : AidD) : Int := (d.fName.size : Int) + (d.fMarkColors.size : Int) + (d.fMarkShape.size : Int) + (d.fMarkTopmark.size : Int) + (d.fLightGroup.length : Int) + (d.fLightLetter.size : Int) + (d.fLightColors.size : Int) + ((d.fSectors.length : Int) + totSector d.fSectors)
theorem sizeAid_nn (d : AidD) : 0 ≤ sizeAid d := by unfold sizeAid; have := totSector_nn d.fSectors; omega
set_option maxHeartbeats 1000000 in
theorem c_szAid (xNumber : Int) (xName : ByteArray) (xAtX : Int) (xAtY : Int) (xHeight : Int) (xMarkKind : Int) (xMarkColors : ByteArray) (xMarkShape : ByteArray) (xMarkTopmark : ByteArray) (xLightKind : Int) (aLightGroup : Option Addr) (xLightGroup : List Int) (cLightGroup : Nat) (xLightLetter : ByteArray) (xLightColors : ByteArray) (xLightPeriod : Int) (aSectors : Option Addr) (xSectors : List SectorD) (cSectors : Nat) (xIntensity : Int) (n : Int) (w : World) (hLightGroup : SlA w 0 1 encI (.slice aLightGroup xLightGroup.length cLightGroup) xLightGroup) (hSectors : SlA w 0 3 encSector (.slice aSectors xSectors.length cSectors) xSectors) (hxName : xName.size ≤ maxLen) (hxMarkColors : xMarkColors.size ≤ maxLen) (hxMarkShape : xMarkShape.size ≤ maxLen) (hxMarkTopmark : xMarkTopmark.size ≤ maxLen) (hxLightLetter : xLightLetter.size ≤ maxLen) (hxLightColors : xLightColors.size ≤ maxLen) (hkSectors : ∀ x ∈ xSectors, okSector x) (h0 : -1 ≤ n) (h1 : n ≤ 1048576) :
    Calls Try.prog 31 #[.agg #[.int .i64 xNumber, .string xName, .int .i64 xAtX, .int .i64 xAtY, .int .i64 xHeight, .int .i64 xMarkKind, .string xMarkColors, .string xMarkShape, .string xMarkTopmark, .int .i64 xLightKind, .slice aLightGroup xLightGroup.length cLightGroup, .string xLightLetter, .string xLightColors, .int .i64 xLightPeriod, .slice aSectors xSectors.length cSectors, .int .i64 xIntensity], .int .i64 n] w fun e w' => e = .returned (.int .i64 (szV n ((xName.size : Int) + (xMarkColors.size : Int) + (xMarkShape.size : Int) + (xMarkTopmark.size : Int) + (xLightGroup.length : Int) + (xLightLetter.size : Int) + (xLightColors.size : Int) + ((xSectors.length : Int) + totSector xSectors)))) ∧ Below w.heap.size w w' := by
  unfold maxLen at hxName hxMarkColors hxMarkShape hxMarkTopmark hxLightLetter hxLightColors
  go_enter Try.func31, Try.ntmps31
  have ea0 := szV_two (n - (xName.size : Int)) ((xMarkColors.size : Int) + (xMarkShape.size : Int) + (xMarkTopmark.size : Int))
  have ea1 := szV_two (szV (n - (xName.size : Int)) ((xMarkColors.size : Int) + (xMarkShape.size : Int) + (xMarkTopmark.size : Int))) ((xLightGroup.length : Int) + (xLightLetter.size : Int) + (xLightColors.size : Int))
  have ea2 := szV_two (szV (szV (n - (xName.size : Int)) ((xMarkColors.size : Int) + (xMarkShape.size : Int) + (xMarkTopmark.size : Int))) ((xLightGroup.length : Int) + (xLightLetter.size : Int) + (xLightColors.size : Int))) ((xSectors.length : Int) + totSector xSectors)
  have ea3 := totSector_nn xSectors
  go_wp2_with (first | (go_at_call 38; refine (c_szMark xMarkKind xMarkColors xMarkShape xMarkTopmark _ _ (by unfold maxLen; assumption) (by unfold maxLen; assumption) (by unfold maxLen; assumption) (by omega) (by omega)).mono ?_; rintro e w1 ⟨rfl, hb⟩; obtain ⟨hc, hf⟩ := bcell hb; have hz := hb.size; (try simp at hz); (try have hz0 : ∀ b, b < w.heap.size → b < w1.heap.size := fun b h => by omega); (try have hz1 : w.heap.size < w1.heap.size := by omega); (try have hz2 : w.heap.size + 1 < w1.heap.size := by omega); (try have hz3 : w.heap.size + 2 < w1.heap.size := by omega)) | (go_at_call 39; refine (c_szCharacter xLightKind aLightGroup xLightGroup cLightGroup xLightLetter xLightColors xLightPeriod _ _ (hLightGroup.at (by (repeat' (first | (with_reducible exact Below.refl _ _) | (with_reducible refine Below.alloc ?_ ?_ _) | (with_reducible refine Below.drew ?_) | (with_reducible refine below_drewN ?_ _) | (with_reducible refine Below.setCell ?_ ?_ _) | (with_reducible refine below_via ‹_› ?_ ?_) | (with_reducible refine below_grow ?_ ?_ _ _) | omega | (simp; done) | (simp; omega))))) (by unfold maxLen; assumption) (by unfold maxLen; assumption)  (by omega) (by omega)).mono ?_; rintro e w1 ⟨rfl, hb⟩; obtain ⟨hc, hf⟩ := bcell hb; have hz := hb.size; (try simp at hz); (try have hz0 : ∀ b, b < w.heap.size → b < w1.heap.size := fun b h => by omega); (try have hz1 : w.heap.size < w1.heap.size := by omega); (try have hz2 : w.heap.size + 1 < w1.heap.size := by omega); (try have hz3 : w.heap.size + 2 < w1.heap.size := by omega)) | (go_at_call 40; refine (c_szSectorS _ _ _ _ (hSectors.at (by (repeat' (first | (with_reducible exact Below.refl _ _) | (with_reducible refine Below.alloc ?_ ?_ _) | (with_reducible refine Below.drew ?_) | (with_reducible refine below_drewN ?_ _) | (with_reducible refine Below.setCell ?_ ?_ _) | (with_reducible refine below_via ‹_› ?_ ?_) | (with_reducible refine below_grow ?_ ?_ _ _) | omega | (simp; done) | (simp; omega))))) hkSectors (by omega) (by omega)).mono ?_; rintro e w1 ⟨rfl, hb⟩; obtain ⟨hc, hf⟩ := bcell hb; have hz := hb.size; (try simp at hz); (try have hz0 : ∀ b, b < w.heap.size → b < w1.heap.size := fun b h => by omega); (try have hz1 : w.heap.size < w1.heap.size := by omega); (try have hz2 : w.heap.size + 1 < w1.heap.size := by omega); (try have hz3 : w.heap.size + 2 < w1.heap.size := by omega)))
  all_goals (go_ret; go_light; have eb := szV_two n ((xName.size : Int) + (xMarkColors.size : Int) + (xMarkShape.size : Int) + (xMarkTopmark.size : Int) + (xLightGroup.length : Int) + (xLightLetter.size : Int) + (xLightColors.size : Int) + ((xSectors.length : Int) + totSector xSectors)); exact ⟨ret_int (by omega), by (repeat' (first | (with_reducible exact Below.refl _ _) | (with_reducible refine Below.alloc ?_ ?_ _) | (with_reducible refine Below.drew ?_) | (with_reducible refine below_drewN ?_ _) | (with_reducible refine Below.setCell ?_ ?_ _) | (with_reducible refine below_via ‹_› ?_ ?_) | (with_reducible refine below_grow ?_ ?_ _ _) | omega | (simp; done) | (simp; omega)))⟩)
set_option maxHeartbeats 1000000 in
theorem c_eqAid (xNumber : Int) (xName : ByteArray) (xAtX : Int) (xAtY : Int) (xHeight : Int) (xMarkKind : Int) (xMarkColors : ByteArray) (xMarkShape : ByteArray) (xMarkTopmark : ByteArray) (xLightKind : Int) (aLightGroup : Option Addr) (xLightGroup : List Int) (cLightGroup : Nat) (xLightLetter : ByteArray) (xLightColors : ByteArray) (xLightPeriod : Int) (aSectors : Option Addr) (xSectors : List SectorD) (cSectors : Nat) (xIntensity : Int) (bLightGroup : Option Addr) (qLightGroup : Nat) (bSectors : Option Addr) (qSectors : Nat) (lo lo' : Nat) (w : World) (hLightGroup : SlA w lo 1 encI (.slice aLightGroup xLightGroup.length cLightGroup) xLightGroup) (hSectors : SlA w lo 3 encSector (.slice aSectors xSectors.length cSectors) xSectors) (h'LightGroup : SlA w lo' 1 encI (.slice bLightGroup xLightGroup.length qLightGroup) xLightGroup) (h'Sectors : SlA w lo' 3 encSector (.slice bSectors xSectors.length qSectors) xSectors) :
    Calls Try.prog 36 #[.agg #[.int .i64 xNumber, .string xName, .int .i64 xAtX, .int .i64 xAtY, .int .i64 xHeight, .int .i64 xMarkKind, .string xMarkColors, .string xMarkShape, .string xMarkTopmark, .int .i64 xLightKind, .slice aLightGroup xLightGroup.length cLightGroup, .string xLightLetter, .string xLightColors, .int .i64 xLightPeriod, .slice aSectors xSectors.length cSectors, .int .i64 xIntensity], .agg #[.int .i64 xNumber, .string xName, .int .i64 xAtX, .int .i64 xAtY, .int .i64 xHeight, .int .i64 xMarkKind, .string xMarkColors, .string xMarkShape, .string xMarkTopmark, .int .i64 xLightKind, .slice bLightGroup xLightGroup.length qLightGroup, .string xLightLetter, .string xLightColors, .int .i64 xLightPeriod, .slice bSectors xSectors.length qSectors, .int .i64 xIntensity]] w fun e w' => e = .returned (.bool true) ∧ Below w.heap.size w w' := by
  go_enter Try.func36, Try.ntmps36
  go_wp2_with (first | (go_at_call 49; refine (c_eqPoint xAtX xAtY _).mono ?_; rintro e w1 ⟨rfl, hb⟩; obtain ⟨hc, hf⟩ := bcell hb; have hz := hb.size; (try simp at hz); (try have hz0 : ∀ b, b < w.heap.size → b < w1.heap.size := fun b h => by omega); (try have hz1 : w.heap.size < w1.heap.size := by omega); (try have hz2 : w.heap.size + 1 < w1.heap.size := by omega); (try have hz3 : w.heap.size + 2 < w1.heap.size := by omega)) | (go_at_call 50; refine (c_eqMark xMarkKind xMarkColors xMarkShape xMarkTopmark _).mono ?_; rintro e w1 ⟨rfl, hb⟩; obtain ⟨hc, hf⟩ := bcell hb; have hz := hb.size; (try simp at hz); (try have hz0 : ∀ b, b < w.heap.size → b < w1.heap.size := fun b h => by omega); (try have hz1 : w.heap.size < w1.heap.size := by omega); (try have hz2 : w.heap.size + 1 < w1.heap.size := by omega); (try have hz3 : w.heap.size + 2 < w1.heap.size := by omega)) | (go_at_call 51; refine (c_eqCharacter xLightKind aLightGroup xLightGroup cLightGroup xLightLetter xLightColors xLightPeriod bLightGroup qLightGroup lo lo' _ (hLightGroup.at (by (repeat' (first | (with_reducible exact Below.refl _ _) | (with_reducible refine Below.alloc ?_ ?_ _) | (with_reducible refine Below.drew ?_) | (with_reducible refine below_drewN ?_ _) | (with_reducible refine Below.setCell ?_ ?_ _) | (with_reducible refine below_via ‹_› ?_ ?_) | (with_reducible refine below_grow ?_ ?_ _ _) | omega | (simp; done) | (simp; omega))))) (h'LightGroup.at (by (repeat' (first | (with_reducible exact Below.refl _ _) | (with_reducible refine Below.alloc ?_ ?_ _) | (with_reducible refine Below.drew ?_) | (with_reducible refine below_drewN ?_ _) | (with_reducible refine Below.setCell ?_ ?_ _) | (with_reducible refine below_via ‹_› ?_ ?_) | (with_reducible refine below_grow ?_ ?_ _ _) | omega | (simp; done) | (simp; omega)))))).mono ?_; rintro e w1 ⟨rfl, hb⟩; obtain ⟨hc, hf⟩ := bcell hb; have hz := hb.size; (try simp at hz); (try have hz0 : ∀ b, b < w.heap.size → b < w1.heap.size := fun b h => by omega); (try have hz1 : w.heap.size < w1.heap.size := by omega); (try have hz2 : w.heap.size + 1 < w1.heap.size := by omega); (try have hz3 : w.heap.size + 2 < w1.heap.size := by omega)) | (go_at_call 52; refine (c_eqSectorS _ _ lo lo' xSectors _ (hSectors.at (by (repeat' (first | (with_reducible exact Below.refl _ _) | (with_reducible refine Below.alloc ?_ ?_ _) | (with_reducible refine Below.drew ?_) | (with_reducible refine below_drewN ?_ _) | (with_reducible refine Below.setCell ?_ ?_ _) | (with_reducible refine below_via ‹_› ?_ ?_) | (with_reducible refine below_grow ?_ ?_ _ _) | omega | (simp; done) | (simp; omega))))) (h'Sectors.at (by (repeat' (first | (with_reducible exact Below.refl _ _) | (with_reducible refine Below.alloc ?_ ?_ _) | (with_reducible refine Below.drew ?_) | (with_reducible refine below_drewN ?_ _) | (with_reducible refine Below.setCell ?_ ?_ _) | (with_reducible refine below_via ‹_› ?_ ?_) | (with_reducible refine below_grow ?_ ?_ _ _) | omega | (simp; done) | (simp; omega)))))).mono ?_; rintro e w1 ⟨rfl, hb⟩; obtain ⟨hc, hf⟩ := bcell hb; have hz := hb.size; (try simp at hz); (try have hz0 : ∀ b, b < w.heap.size → b < w1.heap.size := fun b h => by omega); (try have hz1 : w.heap.size < w1.heap.size := by omega); (try have hz2 : w.heap.size + 1 < w1.heap.size := by omega); (try have hz3 : w.heap.size + 2 < w1.heap.size := by omega)))
  go_ret
  exact ⟨rfl, by (repeat' (first | (with_reducible exact Below.refl _ _) | (with_reducible refine Below.alloc ?_ ?_ _) | (with_reducible refine Below.drew ?_) | (with_reducible refine below_drewN ?_ _) | (with_reducible refine Below.setCell ?_ ?_ _) | (with_reducible refine below_via ‹_› ?_ ?_) | (with_reducible refine below_grow ?_ ?_ _ _) | omega | (simp; done) | (simp; omega)))⟩
def totAid : List AidD → Int
  | [] => 0
  | d :: l => sizeAid d + totAid l
theorem totAid_nn : ∀ l : List AidD, 0 ≤ totAid l
  | [] => by simp [totAid]
  | d :: l => by have := totAid_nn l; have := sizeAid_nn d; simp only [totAid]; omega
set_option maxHeartbeats 1000000 in
theorem c_szAidS (v : Value) (xs : List AidD) (n : Int) (w : World) (h : SlA w 0 16 encAid v xs) (hok : ∀ x ∈ xs, okAid x) (hin : ∀ x ∈ xs, inAid w 0 x) (h0 : -1 ≤ n) (h1 : n ≤ 1048576) :
    Calls Try.prog 19 #[v, .int .i64 n] w fun e w' => e = .returned (.int .i64 (szV n (xs.length + totAid xs))) ∧ Below w.heap.size w w' := by
  rcases h with ⟨a, cap, rfl, rfl, hcap⟩ | ⟨b, off, cap, rfl, hp, hc, hm, _, hb, hx⟩
  · by_cases hn : n < 0
    · go_enter Try.func19, Try.ntmps19
      go_wp2
      go_ret
      exact ⟨ret_int (by unfold szV; simp [totAid]; omega), by (repeat' (first | (with_reducible exact Below.refl _ _) | (with_reducible refine Below.alloc ?_ ?_ _) | (with_reducible refine Below.drew ?_) | (with_reducible refine below_drewN ?_ _) | (with_reducible refine Below.setCell ?_ ?_ _) | (with_reducible refine below_via ‹_› ?_ ?_) | (with_reducible refine below_grow ?_ ?_ _ _) | omega | (simp; done) | (simp; omega)))⟩
    · go_enter Try.func19, Try.ntmps19
      go_wp2
      refine wp_loop_rounds 1 ?_
      rw [rounds_succ]
      go_wp2
      go_ret
      exact ⟨ret_int (by unfold szV; simp [totAid]; omega), by (repeat' (first | (with_reducible exact Below.refl _ _) | (with_reducible refine Below.alloc ?_ ?_ _) | (with_reducible refine Below.drew ?_) | (with_reducible refine below_drewN ?_ _) | (with_reducible refine Below.setCell ?_ ?_ _) | (with_reducible refine below_via ‹_› ?_ ?_) | (with_reducible refine below_grow ?_ ?_ _ _) | omega | (simp; done) | (simp; omega)))⟩
  · unfold maxLen at hm
    have hT := totAid_nn xs
    by_cases hn : n - xs.length < 0
    · go_enter Try.func19, Try.ntmps19
      go_wp2
      go_ret
      exact ⟨ret_int (by unfold szV; split <;> omega), by (repeat' (first | (with_reducible exact Below.refl _ _) | (with_reducible refine Below.alloc ?_ ?_ _) | (with_reducible refine Below.drew ?_) | (with_reducible refine below_drewN ?_ _) | (with_reducible refine Below.setCell ?_ ?_ _) | (with_reducible refine below_via ‹_› ?_ ?_) | (with_reducible refine below_grow ?_ ?_ _ _) | omega | (simp; done) | (simp; omega)))⟩
    · go_enter Try.func19, Try.ntmps19
      go_wp2
      go_loopw [1, 5] (fun t i wr => ∃ (k : Nat) (m : Int), k ≤ xs.length ∧ i = .int .i64 k ∧ t = .int .i64 m ∧ 0 ≤ m ∧ m ≤ n ∧ m + totAid xs = n - xs.length + totAid (xs.drop k) ∧ Below w.heap.size w wr) (fun _ i _ => xs.length - (intOf i).toNat)
      case atStart => exact ⟨0, _, Nat.zero_le _, rfl, rfl, by omega, by omega, by simp, by (repeat' (first | (with_reducible exact Below.refl _ _) | (with_reducible refine Below.alloc ?_ ?_ _) | (with_reducible refine Below.drew ?_) | (with_reducible refine below_drewN ?_ _) | (with_reducible refine Below.setCell ?_ ?_ _) | (with_reducible refine below_via ‹_› ?_ ?_) | (with_reducible refine below_grow ?_ ?_ _ _) | omega | (simp; done) | (simp; omega)))⟩
      case round =>
        obtain ⟨k, m, hk, rfl, rfl, hm0, hmn, hmt, hB⟩ := hrel
        obtain ⟨hc0, hf0⟩ := bcell hB
        have hz := hB.size
        by_cases hlt : k < xs.length
        · have hmt' := hmt
          rw [drop_cons xs k hlt, totAid] at hmt'
          have hnn := sizeAid_nn xs[k]
          have hnd := totAid_nn (xs.drop (k + 1))
          have HO := hid (hok xs[k] (List.getElem_mem hlt))
          have HI := hid ((hin xs[k] (List.getElem_mem hlt)).below hB (Nat.le_refl _))
          have HT := hid hmt'
          have HN := hid (And.intro hnn hnd)
          have HT0 := hid hT
          have hm1 : m ≤ 1048576 := by omega
          have g0 := (hc0 b _ hb).trans (hx k hlt 0 (by omega))
          have g1 := (hc0 b _ hb).trans (hx k hlt 1 (by omega))
          have g2 := (hc0 b _ hb).trans (hx k hlt 2 (by omega))
          have g3 := (hc0 b _ hb).trans (hx k hlt 3 (by omega))
          have g4 := (hc0 b _ hb).trans (hx k hlt 4 (by omega))
          have g5 := (hc0 b _ hb).trans (hx k hlt 5 (by omega))
          have g6 := (hc0 b _ hb).trans (hx k hlt 6 (by omega))
          have g7 := (hc0 b _ hb).trans (hx k hlt 7 (by omega))
          have g8 := (hc0 b _ hb).trans (hx k hlt 8 (by omega))
          have g9 := (hc0 b _ hb).trans (hx k hlt 9 (by omega))
          have g10 := (hc0 b _ hb).trans (hx k hlt 10 (by omega))
          have g11 := (hc0 b _ hb).trans (hx k hlt 11 (by omega))
          have g12 := (hc0 b _ hb).trans (hx k hlt 12 (by omega))
          have g13 := (hc0 b _ hb).trans (hx k hlt 13 (by omega))
          have g14 := (hc0 b _ hb).trans (hx k hlt 14 (by omega))
          have g15 := (hc0 b _ hb).trans (hx k hlt 15 (by omega))
          simp only [encAid, List.getD_cons_zero, List.getD_cons_succ, Nat.add_zero] at g0 g1 g2 g3 g4 g5 g6 g7 g8 g9 g10 g11 g12 g13 g14 g15
          clear hc0 hf0 hx hmt hmt' hnn hnd hT
          go_wp2_with (go_at_call 31; refine (c_szAid xs[k].fNumber xs[k].fName xs[k].fAtX xs[k].fAtY xs[k].fHeight xs[k].fMarkKind xs[k].fMarkColors xs[k].fMarkShape xs[k].fMarkTopmark xs[k].fLightKind xs[k].aLightGroup xs[k].fLightGroup xs[k].cLightGroup xs[k].fLightLetter xs[k].fLightColors xs[k].fLightPeriod xs[k].aSectors xs[k].fSectors xs[k].cSectors xs[k].fIntensity m _ (SlA.at HI.out.1 (by (repeat' (first | (with_reducible exact Below.refl _ _) | (with_reducible refine Below.alloc ?_ ?_ _) | (with_reducible refine Below.drew ?_) | (with_reducible refine below_drewN ?_ _) | (with_reducible refine Below.setCell ?_ ?_ _) | (with_reducible refine below_via ‹_› ?_ ?_) | (with_reducible refine below_grow ?_ ?_ _ _) | omega | (simp; done) | (simp; omega))))) (SlA.at HI.out.2 (by (repeat' (first | (with_reducible exact Below.refl _ _) | (with_reducible refine Below.alloc ?_ ?_ _) | (with_reducible refine Below.drew ?_) | (with_reducible refine below_drewN ?_ _) | (with_reducible refine Below.setCell ?_ ?_ _) | (with_reducible refine below_via ‹_› ?_ ?_) | (with_reducible refine below_grow ?_ ?_ _ _) | omega | (simp; done) | (simp; omega))))) (HO.out.2.1) (HO.out.2.2.2.2.2.2.1) (HO.out.2.2.2.2.2.2.2.1) (HO.out.2.2.2.2.2.2.2.2.1) (HO.out.2.2.2.2.2.2.2.2.2.2.2.1) (HO.out.2.2.2.2.2.2.2.2.2.2.2.2.1) (HO.out.2.2.2.2.2.2.2.2.2.2.2.2.2.2.1) (by omega) hm1).mono ?_; rintro e w1 ⟨rfl, hb⟩; obtain ⟨hc, hf⟩ := bcell hb; have hz := hb.size; (try simp at hz); (try have hz0 : ∀ b, b < w.heap.size → b < w1.heap.size := fun b h => by omega); (try have hz1 : w.heap.size < w1.heap.size := by omega); (try have hz2 : w.heap.size + 1 < w1.heap.size := by omega); (try have hz3 : w.heap.size + 2 < w1.heap.size := by omega))
          · go_ret
            go_light
            have hneg : szV m (sizeAid xs[k]) < 0 := by assumption
            exact ⟨ret_int (szV_eq_neg (by have := HN.out; have := HT.out; have := HT0.out; have := szV_neg hneg; omega)), by (repeat' (first | (with_reducible exact Below.refl _ _) | (with_reducible refine Below.alloc ?_ ?_ _) | (with_reducible refine Below.drew ?_) | (with_reducible refine below_drewN ?_ _) | (with_reducible refine Below.setCell ?_ ?_ _) | (with_reducible refine below_via ‹_› ?_ ?_) | (with_reducible refine below_grow ?_ ?_ _ _) | omega | (simp; done) | (simp; omega)))⟩
          · have hpos : 0 ≤ szV m (sizeAid xs[k]) := by assumption
            go_roundw
            case rel =>
              have e1 := szV_pos (n := m) (m := sizeAid xs[k]) (by omega)
              exact ⟨k + 1, szV m (sizeAid xs[k]), by omega, by go_num, rfl, by omega, by have := HN.out; omega, by have := HT.out; omega, by (repeat' (first | (with_reducible exact Below.refl _ _) | (with_reducible refine Below.alloc ?_ ?_ _) | (with_reducible refine Below.drew ?_) | (with_reducible refine below_drewN ?_ _) | (with_reducible refine Below.setCell ?_ ?_ _) | (with_reducible refine below_via ‹_› ?_ ?_) | (with_reducible refine below_grow ?_ ?_ _ _) | omega | (simp; done) | (simp; omega)))⟩
            case measure => simp [intOf]; omega
        · have e : k = xs.length := by omega
          have hE : m = szV n (xs.length + totAid xs) := by
            rw [e, List.drop_length, totAid] at hmt
            unfold szV; split <;> omega
          have HE := hid hE
          clear hE hmt e
          go_wp2
          go_ret
          exact ⟨ret_int HE.out, by (repeat' (first | (with_reducible exact Below.refl _ _) | (with_reducible refine Below.alloc ?_ ?_ _) | (with_reducible refine Below.drew ?_) | (with_reducible refine below_drewN ?_ _) | (with_reducible refine Below.setCell ?_ ?_ _) | (with_reducible refine below_via ‹_› ?_ ?_) | (with_reducible refine below_grow ?_ ?_ _ _) | omega | (simp; done) | (simp; omega)))⟩
theorem info_Aid : (Try.prog.info? 64).map (fun i => (i.zero, i.size, i.bytes)) = some (some (.agg #[.int .i64 0, .string ⟨#[]⟩, .int .i64 0, .int .i64 0, .int .i64 0, .int .i64 0, .string ⟨#[]⟩, .string ⟨#[]⟩, .string ⟨#[]⟩, .int .i64 0, .slice none 0 0, .string ⟨#[]⟩, .string ⟨#[]⟩, .int .i64 0, .slice none 0 0, .int .i64 0]), 16, 208) := by kernel_rfl
/-- the copy: the same data, in memory of its own, from lo on -/
def CopyAid (w : World) (lo : Nat) (xs ys : List AidD) : Prop := ys.length = xs.length ∧ (∀ i, (h : i < ys.length) → (h' : i < xs.length) → sameAid xs[i] ys[i]) ∧ ∀ y ∈ ys, ownAid w lo y
def partAid (n : Nat) (ys : List AidD) : List Value := ys.flatMap encAid ++ List.replicate ((n - ys.length) * 16) undef
theorem partAid_len (n : Nat) (ys : List AidD) (h : ys.length ≤ n) : (partAid n ys).length = n * 16 := by
  unfold partAid
  rw [List.length_append, flat_len (n := 16) encAid (fun _ => rfl), List.length_replicate, ← Nat.add_mul, Nat.add_sub_cancel' h]
theorem partAid_old {n : Nat} {ys : List AidD} {y : AidD} (h : ys.length < n) (j : Nat) (hj : j < ys.length * 16) : (partAid n (ys ++ [y])).getD j undef = (partAid n ys).getD j undef := by
  unfold partAid
  have hl := flat_len (n := 16) encAid (fun _ => rfl) ys
  rw [List.flatMap_append]
  simp only [List.getD_eq_getElem?_getD]
  rw [List.getElem?_append_left (by rw [List.length_append]; omega), List.getElem?_append_left (by omega), List.getElem?_append_left (by omega)]
theorem partAid_new {n : Nat} {ys : List AidD} {y : AidD} (h : ys.length < n) (j : Nat) (hj : j < 16) : (partAid n (ys ++ [y])).getD (ys.length * 16 + j) undef = (encAid y).getD j undef := by
  unfold partAid
  have hl := flat_len (n := 16) encAid (fun _ => rfl) ys
  have hly : (encAid y).length = 16 := rfl
  rw [List.flatMap_append]
  simp only [List.getD_eq_getElem?_getD, List.flatMap_cons, List.flatMap_nil, List.append_nil]
  rw [List.getElem?_append_left (by rw [List.length_append]; omega), List.getElem?_append_right (by omega), hl, Nat.add_sub_cancel_left]
theorem partAid_all {n : Nat} {ys : List AidD} (h : ys.length = n) : partAid n ys = ys.flatMap encAid := by
  unfold partAid; rw [h, Nat.sub_self, Nat.zero_mul]; simp
set_option maxHeartbeats 2000000 in
theorem c_toAidS (v : Value) (xs : List AidD) (w : World) (h : SlA w 0 16 encAid v xs) (hin : ∀ x ∈ xs, inAid w 0 x) (hl : xs.length ≤ 1048576) (hsm : ∀ x ∈ xs, x.fLightGroup.length ≤ 1048576 ∧ x.fSectors.length ≤ 1048576) :
    Calls Try.prog 21 #[v] w fun e w' => ∃ (g : Nat) (ys : List AidD), e = .returned (.slice (some ⟨g, 0, none⟩) xs.length xs.length) ∧ Below w.heap.size w w' ∧ SlO w' w.heap.size 16 encAid (.slice (some ⟨g, 0, none⟩) xs.length xs.length) ys ∧ CopyAid w' w.heap.size xs ys := by
  obtain ⟨i0, hi, hz0, hz1, hz2⟩ := info_parts info_Aid
  rcases h with ⟨a, cap, rfl, rfl, hcap⟩ | ⟨b, off, cap, rfl, hp, hc, hm, _, hb, hx⟩
  · go_enter Try.func21, Try.ntmps21
    go_wp2_with (at_make; refine wpList_make_full _ rfl _ _ 27 rfl w.heap.size 64 i0 _ 16 Try.underlying27 hi hz0 hz1 _ _ _ _ 0 rfl rfl rfl rfl (by rw [hz2]; omega) (by unfold maxLen; omega) (Nat.le_refl _) ?_)
    intro w1 hown hgr
    have hB0 : Below w.heap.size w w1 := (Below.refl _ _).grown hgr (Nat.le_refl _) (fun k hk => by cases hk)
    have hP0 := PartC.made (cs := ([] : List AidD).flatMap encAid) hown rfl
    clear hown hgr
    go_wp2
    refine wp_loop_rounds 1 ?_
    rw [rounds_succ]
    go_wp2
    go_ret
    exact ⟨_, [], rfl, hB0, hP0.own (xs := []) (n := 16) (fun _ => rfl) (Nat.le_refl _) (Nat.le_refl _) (Nat.zero_le _), rfl, fun i h => by simp at h, fun y hy => by cases hy⟩
  · unfold maxLen at hm
    go_enter Try.func21, Try.ntmps21
    go_wp2_with (at_make; refine wpList_make_full _ rfl _ _ 27 rfl w.heap.size 64 i0 _ 16 Try.underlying27 hi hz0 hz1 _ _ _ _ xs.length rfl rfl rfl rfl (by rw [hz2]; omega) (by unfold maxLen; omega) (Nat.le_refl _) ?_)
    intro w1 hown hgr
    have hP0 := PartC.made (cs := partAid xs.length []) hown (partAid_len _ [] (Nat.zero_le _))
    have hB0 : Below w.heap.size w w1 := (Below.refl _ _).grown hgr (Nat.le_refl _) (fun k hk => by cases hk)
    clear hown hgr
    go_wp2
    go_loopw [4] (fun i wr => ∃ (k : Nat) (ys : List AidD), k ≤ xs.length ∧ ys.length = k ∧ i = .int .i64 k ∧ Below w.heap.size w wr ∧ PartC wr w.heap.size (partAid xs.length ys) (k * 16) ∧ Hid (∀ i, (h : i < ys.length) → (h' : i < xs.length) → sameAid xs[i] ys[i]) ∧ Hid (∀ y ∈ ys, ownAid wr (w.heap.size + 1) y)) (fun i _ => xs.length - (intOf i).toNat)
    case atStart => exact ⟨0, [], Nat.zero_le _, rfl, rfl, hB0, by simpa using hP0, hid (fun i h => by simp at h), hid (fun y hy => by cases hy)⟩
    case round =>
      clear hP0 hB0
      obtain ⟨k, ys, hk, hyl, rfl, hB, hP, HS, HY⟩ := hrel
      by_cases hlt : k < xs.length
      · have hzr := hP.1
        obtain ⟨hc0, hf0⟩ := bcell hB
        have hpl := hid (partAid_len xs.length ys (by omega))
        have HYL := hid hyl
        have g0 := hx k hlt 0 (by omega)
        have g1 := hx k hlt 1 (by omega)
        have g2 := hx k hlt 2 (by omega)
        have g3 := hx k hlt 3 (by omega)
        have g4 := hx k hlt 4 (by omega)
        have g5 := hx k hlt 5 (by omega)
        have g6 := hx k hlt 6 (by omega)
        have g7 := hx k hlt 7 (by omega)
        have g8 := hx k hlt 8 (by omega)
        have g9 := hx k hlt 9 (by omega)
        have g10 := hx k hlt 10 (by omega)
        have g11 := hx k hlt 11 (by omega)
        have g12 := hx k hlt 12 (by omega)
        have g13 := hx k hlt 13 (by omega)
        have g14 := hx k hlt 14 (by omega)
        have g15 := hx k hlt 15 (by omega)
        obtain ⟨u0, hu0⟩ := hP.2.2.2.1 (k*16) (by rw [hpl.out]; omega)
        obtain ⟨u1, hu1⟩ := hP.2.2.2.1 (k*16+1) (by rw [hpl.out]; omega)
        obtain ⟨u2, hu2⟩ := hP.2.2.2.1 (k*16+2) (by rw [hpl.out]; omega)
        obtain ⟨u3, hu3⟩ := hP.2.2.2.1 (k*16+3) (by rw [hpl.out]; omega)
        obtain ⟨u4, hu4⟩ := hP.2.2.2.1 (k*16+4) (by rw [hpl.out]; omega)
        obtain ⟨u5, hu5⟩ := hP.2.2.2.1 (k*16+5) (by rw [hpl.out]; omega)
        obtain ⟨u6, hu6⟩ := hP.2.2.2.1 (k*16+6) (by rw [hpl.out]; omega)
        obtain ⟨u7, hu7⟩ := hP.2.2.2.1 (k*16+7) (by rw [hpl.out]; omega)
        obtain ⟨u8, hu8⟩ := hP.2.2.2.1 (k*16+8) (by rw [hpl.out]; omega)
        obtain ⟨u9, hu9⟩ := hP.2.2.2.1 (k*16+9) (by rw [hpl.out]; omega)
        obtain ⟨u10, hu10⟩ := hP.2.2.2.1 (k*16+10) (by rw [hpl.out]; omega)
        obtain ⟨u11, hu11⟩ := hP.2.2.2.1 (k*16+11) (by rw [hpl.out]; omega)
        obtain ⟨u12, hu12⟩ := hP.2.2.2.1 (k*16+12) (by rw [hpl.out]; omega)
        obtain ⟨u13, hu13⟩ := hP.2.2.2.1 (k*16+13) (by rw [hpl.out]; omega)
        obtain ⟨u14, hu14⟩ := hP.2.2.2.1 (k*16+14) (by rw [hpl.out]; omega)
        obtain ⟨u15, hu15⟩ := hP.2.2.2.1 (k*16+15) (by rw [hpl.out]; omega)
        have hfz := hP.2.2.1
        have HI := hid (hin xs[k] (List.getElem_mem hlt))
        have HL := hid (hsm xs[k] (List.getElem_mem hlt))
        have HP := hid hP
        simp only [encAid, List.getD_cons_zero, List.getD_cons_succ, Nat.add_zero] at g0 g1 g2 g3 g4 g5 g6 g7 g8 g9 g10 g11 g12 g13 g14 g15
        clear hP hyl hx
        go_wp2_with fail
        refine (c_toAid xs[k].fNumber xs[k].fName xs[k].fAtX xs[k].fAtY xs[k].fHeight xs[k].fMarkKind xs[k].fMarkColors xs[k].fMarkShape xs[k].fMarkTopmark xs[k].fLightKind xs[k].aLightGroup xs[k].fLightGroup xs[k].cLightGroup xs[k].fLightLetter xs[k].fLightColors xs[k].fLightPeriod xs[k].aSectors xs[k].fSectors xs[k].cSectors xs[k].fIntensity _ (SlA.at HI.out.1 (by (repeat' (first | (with_reducible exact Below.refl _ _) | (with_reducible refine Below.alloc ?_ ?_ _) | (with_reducible refine Below.drew ?_) | (with_reducible refine below_drewN ?_ _) | (with_reducible refine Below.setCell ?_ ?_ _) | (with_reducible refine below_via ‹_› ?_ ?_) | (with_reducible refine below_grow ?_ ?_ _ _) | omega | (simp; done) | (simp; omega))))) (SlA.at HI.out.2 (by (repeat' (first | (with_reducible exact Below.refl _ _) | (with_reducible refine Below.alloc ?_ ?_ _) | (with_reducible refine Below.drew ?_) | (with_reducible refine below_drewN ?_ _) | (with_reducible refine Below.setCell ?_ ?_ _) | (with_reducible refine below_via ‹_› ?_ ?_) | (with_reducible refine below_grow ?_ ?_ _ _) | omega | (simp; done) | (simp; omega))))) HL.out.1 HL.out.2).mono ?_
        rintro e w2 ⟨gLightGroup, gSectors, rfl, hb2, oLightGroup, oSectors⟩
        have hz2b := hb2.size
        have hbb : b < wr.heap.size := by omega
        obtain ⟨hc2, hf2⟩ := bcell hb2
        have hw2 : w.heap.size < w2.heap.size := by omega
        go_wp2_with fail
        go_roundw
        case rel =>
          have E1 := HYL.out
          have F := fun j hj => (partAid_new (n := xs.length) (ys := ys) (y := (⟨xs[k].fNumber, xs[k].fName, xs[k].fAtX, xs[k].fAtY, xs[k].fHeight, xs[k].fMarkKind, xs[k].fMarkColors, xs[k].fMarkShape, xs[k].fMarkTopmark, xs[k].fLightKind, some ⟨gLightGroup, 0, none⟩, xs[k].fLightGroup, xs[k].fLightGroup.length, xs[k].fLightLetter, xs[k].fLightColors, xs[k].fLightPeriod, some ⟨gSectors, 0, none⟩, xs[k].fSectors, xs[k].fSectors.length, xs[k].fIntensity⟩ : AidD)) (by omega) j hj).symm
          rw [E1] at F
          have hpn := partAid_len xs.length (ys ++ [(⟨xs[k].fNumber, xs[k].fName, xs[k].fAtX, xs[k].fAtY, xs[k].fHeight, xs[k].fMarkKind, xs[k].fMarkColors, xs[k].fMarkShape, xs[k].fMarkTopmark, xs[k].fLightKind, some ⟨gLightGroup, 0, none⟩, xs[k].fLightGroup, xs[k].fLightGroup.length, xs[k].fLightLetter, xs[k].fLightColors, xs[k].fLightPeriod, some ⟨gSectors, 0, none⟩, xs[k].fSectors, xs[k].fSectors.length, xs[k].fIntensity⟩ : AidD)]) (by simp; omega)
          have P0 : PartC w2 w.heap.size (partAid xs.length (ys ++ [(⟨xs[k].fNumber, xs[k].fName, xs[k].fAtX, xs[k].fAtY, xs[k].fHeight, xs[k].fMarkKind, xs[k].fMarkColors, xs[k].fMarkShape, xs[k].fMarkTopmark, xs[k].fLightKind, some ⟨gLightGroup, 0, none⟩, xs[k].fLightGroup, xs[k].fLightGroup.length, xs[k].fLightLetter, xs[k].fLightColors, xs[k].fLightPeriod, some ⟨gSectors, 0, none⟩, xs[k].fSectors, xs[k].fSectors.length, xs[k].fIntensity⟩ : AidD)])) (k * 16) := (HP.out.below hb2 (Nat.le_refl _)).retype (by rw [hpn, hpl.out]) (fun j hj => partAid_old (by omega) j (by rw [E1]; exact hj))
          refine ⟨k + 1, ys ++ [(⟨xs[k].fNumber, xs[k].fName, xs[k].fAtX, xs[k].fAtY, xs[k].fHeight, xs[k].fMarkKind, xs[k].fMarkColors, xs[k].fMarkShape, xs[k].fMarkTopmark, xs[k].fLightKind, some ⟨gLightGroup, 0, none⟩, xs[k].fLightGroup, xs[k].fLightGroup.length, xs[k].fLightLetter, xs[k].fLightColors, xs[k].fLightPeriod, some ⟨gSectors, 0, none⟩, xs[k].fSectors, xs[k].fSectors.length, xs[k].fIntensity⟩ : AidD)], by omega, by simp; omega, by go_num, by (repeat' (first | (with_reducible exact Below.refl _ _) | (with_reducible refine Below.alloc ?_ ?_ _) | (with_reducible refine Below.drew ?_) | (with_reducible refine below_drewN ?_ _) | (with_reducible refine Below.setCell ?_ ?_ _) | (with_reducible refine below_via ‹_› ?_ ?_) | (with_reducible refine below_grow ?_ ?_ _ _) | omega | (simp; done) | (simp; omega))), ?_, hid ?_, hid ?_⟩
          · exact ((((((((((((((((P0.set (by rw [hpn]; omega) (F 0 (by omega)) rfl).set (by rw [hpn]; omega) (F 1 (by omega)) rfl).set (by rw [hpn]; omega) (F 2 (by omega)) rfl).set (by rw [hpn]; omega) (F 3 (by omega)) rfl).set (by rw [hpn]; omega) (F 4 (by omega)) rfl).set (by rw [hpn]; omega) (F 5 (by omega)) rfl).set (by rw [hpn]; omega) (F 6 (by omega)) rfl).set (by rw [hpn]; omega) (F 7 (by omega)) rfl).set (by rw [hpn]; omega) (F 8 (by omega)) rfl).set (by rw [hpn]; omega) (F 9 (by omega)) rfl).set (by rw [hpn]; omega) (F 10 (by omega)) rfl).set (by rw [hpn]; omega) (F 11 (by omega)) rfl).set (by rw [hpn]; omega) (F 12 (by omega)) rfl).set (by rw [hpn]; omega) (F 13 (by omega)) rfl).set (by rw [hpn]; omega) (F 14 (by omega)) rfl).set (by rw [hpn]; omega) (F 15 (by omega)) (by omega))
          · exact snoc_all (R := fun i y => ∀ h' : i < xs.length, sameAid xs[i] y) (fun i h h' => HS.out i h h') (fun h' => by simp only [E1]; exact ⟨rfl, rfl, rfl, rfl, rfl, rfl, rfl, rfl, rfl, rfl, rfl, rfl, rfl, rfl, rfl, rfl⟩)
          · intro y hy
            (refine ownAid.setLt ?_ (by simp) _); (refine ownAid.setLt ?_ (by simp) _); (refine ownAid.setLt ?_ (by simp) _); (refine ownAid.setLt ?_ (by simp) _); (refine ownAid.setLt ?_ (by simp) _); (refine ownAid.setLt ?_ (by simp) _); (refine ownAid.setLt ?_ (by simp) _); (refine ownAid.setLt ?_ (by simp) _); (refine ownAid.setLt ?_ (by simp) _); (refine ownAid.setLt ?_ (by simp) _); (refine ownAid.setLt ?_ (by simp) _); (refine ownAid.setLt ?_ (by simp) _); (refine ownAid.setLt ?_ (by simp) _); (refine ownAid.setLt ?_ (by simp) _); (refine ownAid.setLt ?_ (by simp) _); (refine ownAid.setLt ?_ (by simp) _)
            rcases List.mem_append.1 hy with hy | hy
            · exact (HY.out y hy).below hb2 (Nat.le_refl _)
            · rw [List.mem_singleton.1 hy]; exact ⟨oLightGroup.mono (by omega), oSectors.mono (by omega)⟩
        case measure => simp [intOf]; omega
      · have e : k = xs.length := by omega
        subst e
        have hP2 := hP
        rw [partAid_all hyl] at hP2
        have hO : SlO wr w.heap.size 16 encAid (.slice (some ⟨w.heap.size, 0, none⟩) xs.length xs.length) ys := by
          have := PartC.own (lo := w.heap.size) (cap := xs.length) (xs := ys) (n := 16) (enc := encAid) (fun _ => rfl) (by rw [hyl]; exact hP2) (Nat.le_refl _) (by omega) (by unfold maxLen; omega)
          rw [hyl] at this; exact this
        have HO := hid hO
        have HYL := hid hyl
        clear hP hP2 hO hyl
        go_wp2
        go_ret
        exact ⟨_, ys, rfl, hB, HO.out, HYL.out, HS.out, fun y hy => (HY.out y hy).mono (by omega)⟩
set_option maxHeartbeats 2000000 in
theorem c_eqAidS (v v' : Value) (lo lo' : Nat) (xs ys : List AidD) (w : World) (h : SlA w lo 16 encAid v xs) (h' : SlA w lo' 16 encAid v' ys) (hl : ys.length = xs.length) (hs : ∀ i, (h : i < xs.length) → (h' : i < ys.length) → sameAid xs[i] ys[i]) (hin : ∀ x ∈ xs, inAid w lo x) (hin' : ∀ x ∈ ys, inAid w lo' x) :
    Calls Try.prog 23 #[v, v'] w fun e w' => e = .returned (.bool true) ∧ Below w.heap.size w w' := by
  rcases h with ⟨a, cap, rfl, rfl, hcap⟩ | ⟨b, off, cap, rfl, hp, hc, hm, _, hb, hx⟩
  · rcases h' with ⟨a', cap', rfl, _, hcap'⟩ | ⟨b', off', cap', rfl, hp', hc', hm', _, hb', hx'⟩
    · go_enter Try.func23, Try.ntmps23
      go_wp2
      refine wp_loop_rounds 1 ?_
      rw [rounds_succ]
      go_wp2
      go_ret
      exact ⟨rfl, by (repeat' (first | (with_reducible exact Below.refl _ _) | (with_reducible refine Below.alloc ?_ ?_ _) | (with_reducible refine Below.drew ?_) | (with_reducible refine below_drewN ?_ _) | (with_reducible refine Below.setCell ?_ ?_ _) | (with_reducible refine below_via ‹_› ?_ ?_) | (with_reducible refine below_grow ?_ ?_ _ _) | omega | (simp; done) | (simp; omega)))⟩
    · simp at hl; simp [hl] at hp'
  · rcases h' with ⟨a', cap', rfl, e', hcap'⟩ | ⟨b', off', cap', rfl, hp', hc', hm', _, hb', hx'⟩
    · subst e'; simp at hl; simp [← hl] at hp
    · unfold maxLen at hm hm'
      rw [hl]
      rw [hl] at hc' hp'
      have HL := hid hl
      clear hl
      go_enter Try.func23, Try.ntmps23
      go_wp2
      go_loopw [5] (fun i wr => ∃ k : Nat, k ≤ xs.length ∧ i = .int .i64 k ∧ Below w.heap.size w wr) (fun i _ => xs.length - (intOf i).toNat)
      case atStart => exact ⟨0, Nat.zero_le _, rfl, by (repeat' (first | (with_reducible exact Below.refl _ _) | (with_reducible refine Below.alloc ?_ ?_ _) | (with_reducible refine Below.drew ?_) | (with_reducible refine below_drewN ?_ _) | (with_reducible refine Below.setCell ?_ ?_ _) | (with_reducible refine below_via ‹_› ?_ ?_) | (with_reducible refine below_grow ?_ ?_ _ _) | omega | (simp; done) | (simp; omega)))⟩
      case round =>
        obtain ⟨k, hk, rfl, hB⟩ := hrel
        obtain ⟨hc0, hf0⟩ := bcell hB
        have hz := hB.size
        by_cases hlt : k < xs.length
        · have hlI : (k : Int) < xs.length := by omega
          have hlt' : k < ys.length := by have := HL.out; omega
          obtain ⟨e0, e1, e2, e3, e4, e5, e6, e7, e8, e9, e10, e11, e12, e13, e14, e15⟩ := hs k hlt hlt'
          have HI := hid ((hin xs[k] (List.getElem_mem hlt)).below hB (Nat.le_refl _))
          have HI' := hid ((hin' ys[k] (List.getElem_mem hlt')).below hB (Nat.le_refl _))
          have g0 := (hc0 b _ hb).trans (hx k hlt 0 (by omega))
          have g1 := (hc0 b _ hb).trans (hx k hlt 1 (by omega))
          have g2 := (hc0 b _ hb).trans (hx k hlt 2 (by omega))
          have g3 := (hc0 b _ hb).trans (hx k hlt 3 (by omega))
          have g4 := (hc0 b _ hb).trans (hx k hlt 4 (by omega))
          have g5 := (hc0 b _ hb).trans (hx k hlt 5 (by omega))
          have g6 := (hc0 b _ hb).trans (hx k hlt 6 (by omega))
          have g7 := (hc0 b _ hb).trans (hx k hlt 7 (by omega))
          have g8 := (hc0 b _ hb).trans (hx k hlt 8 (by omega))
          have g9 := (hc0 b _ hb).trans (hx k hlt 9 (by omega))
          have g10 := (hc0 b _ hb).trans (hx k hlt 10 (by omega))
          have g11 := (hc0 b _ hb).trans (hx k hlt 11 (by omega))
          have g12 := (hc0 b _ hb).trans (hx k hlt 12 (by omega))
          have g13 := (hc0 b _ hb).trans (hx k hlt 13 (by omega))
          have g14 := (hc0 b _ hb).trans (hx k hlt 14 (by omega))
          have g15 := (hc0 b _ hb).trans (hx k hlt 15 (by omega))
          have k0 := (hc0 b' _ hb').trans (hx' k hlt' 0 (by omega))
          have k1 := (hc0 b' _ hb').trans (hx' k hlt' 1 (by omega))
          have k2 := (hc0 b' _ hb').trans (hx' k hlt' 2 (by omega))
          have k3 := (hc0 b' _ hb').trans (hx' k hlt' 3 (by omega))
          have k4 := (hc0 b' _ hb').trans (hx' k hlt' 4 (by omega))
          have k5 := (hc0 b' _ hb').trans (hx' k hlt' 5 (by omega))
          have k6 := (hc0 b' _ hb').trans (hx' k hlt' 6 (by omega))
          have k7 := (hc0 b' _ hb').trans (hx' k hlt' 7 (by omega))
          have k8 := (hc0 b' _ hb').trans (hx' k hlt' 8 (by omega))
          have k9 := (hc0 b' _ hb').trans (hx' k hlt' 9 (by omega))
          have k10 := (hc0 b' _ hb').trans (hx' k hlt' 10 (by omega))
          have k11 := (hc0 b' _ hb').trans (hx' k hlt' 11 (by omega))
          have k12 := (hc0 b' _ hb').trans (hx' k hlt' 12 (by omega))
          have k13 := (hc0 b' _ hb').trans (hx' k hlt' 13 (by omega))
          have k14 := (hc0 b' _ hb').trans (hx' k hlt' 14 (by omega))
          have k15 := (hc0 b' _ hb').trans (hx' k hlt' 15 (by omega))
          simp only [encAid, List.getD_cons_zero, List.getD_cons_succ, Nat.add_zero] at g0 k0 g1 k1 g2 k2 g3 k3 g4 k4 g5 k5 g6 k6 g7 k7 g8 k8 g9 k9 g10 k10 g11 k11 g12 k12 g13 k13 g14 k14 g15 k15
          obtain ⟨y, hy⟩ : ∃ y, y = ys[k] := ⟨_, rfl⟩
          rw [← hy] at e0 k0 e1 k1 e2 k2 e3 k3 e4 k4 e5 k5 e6 k6 e7 k7 e8 k8 e9 k9 e10 k10 e11 k11 e12 k12 e13 k13 e14 k14 e15 k15 HI'
          rw [← e0] at k0
          rw [← e1] at k1
          rw [← e2] at k2
          rw [← e3] at k3
          rw [← e4] at k4
          rw [← e5] at k5
          rw [← e6] at k6
          rw [← e7] at k7
          rw [← e8] at k8
          rw [← e9] at k9
          rw [← e10] at k10
          rw [← e11] at k11
          rw [← e12] at k12
          rw [← e13] at k13
          rw [← e14] at k14
          rw [← e15] at k15
          have HE := hid (show xs[k].fLightGroup = y.fLightGroup ∧ xs[k].fSectors = y.fSectors from ⟨e10, e14⟩)
          have J0 := hid (show SlA wr lo' 1 encI (.slice y.aLightGroup xs[k].fLightGroup.length y.cLightGroup) xs[k].fLightGroup by rw [HE.out.1]; exact HI'.out.1)
          have J1 := hid (show SlA wr lo' 3 encSector (.slice y.aSectors xs[k].fSectors.length y.cSectors) xs[k].fSectors by rw [HE.out.2]; exact HI'.out.2)
          clear hc0 hf0 hx hx' hs hin hin' hy e0 e1 e2 e3 e4 e5 e6 e7 e8 e9 e10 e11 e12 e13 e14 e15
          go_wp2
          go_still_tail 8, (by kernel_rfl)
          change wpList _ _ _ _ _ wr.drew
          generalize hwd : wr.drew = wd
          have hBd : Below w.heap.size w wd := hwd ▸ hB.drew
          have hBe : Below wr.heap.size wr wd := hwd ▸ (Below.refl _ _).drew
          have hzd := hBd.size
          clear hwd
          go_wp2_with fail
          refine (c_eqAid xs[k].fNumber xs[k].fName xs[k].fAtX xs[k].fAtY xs[k].fHeight xs[k].fMarkKind xs[k].fMarkColors xs[k].fMarkShape xs[k].fMarkTopmark xs[k].fLightKind xs[k].aLightGroup xs[k].fLightGroup xs[k].cLightGroup xs[k].fLightLetter xs[k].fLightColors xs[k].fLightPeriod xs[k].aSectors xs[k].fSectors xs[k].cSectors xs[k].fIntensity y.aLightGroup y.cLightGroup y.aSectors y.cSectors lo lo' _ (SlA.at HI.out.1 hBe) (SlA.at HI.out.2 hBe) (SlA.at J0.out hBe) (SlA.at J1.out hBe)).mono ?_
          rintro e w2 ⟨rfl, hb2⟩
          have hz2 := hb2.size
          go_wp2_with fail
          go_roundw
          case rel => exact ⟨k + 1, by omega, by go_num, by (repeat' (first | (with_reducible exact Below.refl _ _) | (with_reducible refine Below.alloc ?_ ?_ _) | (with_reducible refine Below.drew ?_) | (with_reducible refine below_drewN ?_ _) | (with_reducible refine Below.setCell ?_ ?_ _) | (with_reducible refine below_via ‹_› ?_ ?_) | (with_reducible refine below_grow ?_ ?_ _ _) | omega | (simp; done) | (simp; omega)))⟩
          case measure => simp [intOf]; omega
        · go_wp2
          go_ret
          exact ⟨rfl, by (repeat' (first | (with_reducible exact Below.refl _ _) | (with_reducible refine Below.alloc ?_ ?_ _) | (with_reducible refine Below.drew ?_) | (with_reducible refine below_drewN ?_ _) | (with_reducible refine Below.setCell ?_ ?_ _) | (with_reducible refine below_via ‹_› ?_ ?_) | (with_reducible refine below_grow ?_ ?_ _ _) | omega | (simp; done) | (simp; omega)))⟩
end Go.Proofs.Ytjibilibdjfdcaa
