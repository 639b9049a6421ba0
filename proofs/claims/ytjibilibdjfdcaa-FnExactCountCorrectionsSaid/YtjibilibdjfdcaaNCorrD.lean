/- Correction: a struct that holds slices: its data, how it reads, its copy, size and equality; slices of it. Printed by wip/gennest.py. -/
import Derived.Test.YtjibilibdjfdcaaNames
import Derived.Test.YtjibilibdjfdcaaSl
import Derived.StillTailTactics
import Derived.Test.YtjibilibdjfdcaaNAid
import Derived.Test.YtjibilibdjfdcaaSrc
import Derived.Laws.Rows
import Derived.Laws.Tables
namespace Go.Proofs.Ytjibilibdjfdcaa
open Go.RowKit
set_option linter.unusedVariables false
set_option maxRecDepth 100000

structure CorrectionD where
  fKind : Int
  fAidNumber : Int
  fAidName : ByteArray
  fAidAtX : Int
  fAidAtY : Int
  fAidHeight : Int
  fAidMarkKind : Int
  fAidMarkColors : ByteArray
  fAidMarkShape : ByteArray
  fAidMarkTopmark : ByteArray
  fAidLightKind : Int
  aAidLightGroup : Option Addr
  fAidLightGroup : List Int
  cAidLightGroup : Nat
  fAidLightLetter : ByteArray
  fAidLightColors : ByteArray
  fAidLightPeriod : Int
  aAidSectors : Option Addr
  fAidSectors : List SectorD
  cAidSectors : Nat
  fAidIntensity : Int
def encCorrection (d : CorrectionD) : List Value := [.int .i64 d.fKind, .int .i64 d.fAidNumber, .string d.fAidName, .int .i64 d.fAidAtX, .int .i64 d.fAidAtY, .int .i64 d.fAidHeight, .int .i64 d.fAidMarkKind, .string d.fAidMarkColors, .string d.fAidMarkShape, .string d.fAidMarkTopmark, .int .i64 d.fAidLightKind, .slice d.aAidLightGroup d.fAidLightGroup.length d.cAidLightGroup, .string d.fAidLightLetter, .string d.fAidLightColors, .int .i64 d.fAidLightPeriod, .slice d.aAidSectors d.fAidSectors.length d.cAidSectors, .int .i64 d.fAidIntensity]
def okCorrection (d : CorrectionD) : Prop := I64 d.fKind ∧ I64 d.fAidNumber ∧ d.fAidName.size ≤ maxLen ∧ I64 d.fAidAtX ∧ I64 d.fAidAtY ∧ I64 d.fAidHeight ∧ I64 d.fAidMarkKind ∧ d.fAidMarkColors.size ≤ maxLen ∧ d.fAidMarkShape.size ≤ maxLen ∧ d.fAidMarkTopmark.size ≤ maxLen ∧ I64 d.fAidLightKind ∧ (∀ x ∈ d.fAidLightGroup, I64 x) ∧ d.fAidLightLetter.size ≤ maxLen ∧ d.fAidLightColors.size ≤ maxLen ∧ I64 d.fAidLightPeriod ∧ (∀ x ∈ d.fAidSectors, okSector x) ∧ I64 d.fAidIntensity
def inCorrection (w : World) (lo : Nat) (d : CorrectionD) : Prop := SlA w lo 1 encI (.slice d.aAidLightGroup d.fAidLightGroup.length d.cAidLightGroup) d.fAidLightGroup ∧ SlA w lo 3 encSector (.slice d.aAidSectors d.fAidSectors.length d.cAidSectors) d.fAidSectors
def ownCorrection (w : World) (lo : Nat) (d : CorrectionD) : Prop := SlO w lo 1 encI (.slice d.aAidLightGroup d.fAidLightGroup.length d.cAidLightGroup) d.fAidLightGroup ∧ SlO w lo 3 encSector (.slice d.aAidSectors d.fAidSectors.length d.cAidSectors) d.fAidSectors
def sameCorrection (d d' : CorrectionD) : Prop := d.fKind = d'.fKind ∧ d.fAidNumber = d'.fAidNumber ∧ d.fAidName = d'.fAidName ∧ d.fAidAtX = d'.fAidAtX ∧ d.fAidAtY = d'.fAidAtY ∧ d.fAidHeight = d'.fAidHeight ∧ d.fAidMarkKind = d'.fAidMarkKind ∧ d.fAidMarkColors = d'.fAidMarkColors ∧ d.fAidMarkShape = d'.fAidMarkShape ∧ d.fAidMarkTopmark = d'.fAidMarkTopmark ∧ d.fAidLightKind = d'.fAidLightKind ∧ d.fAidLightGroup = d'.fAidLightGroup ∧ d.fAidLightLetter = d'.fAidLightLetter ∧ d.fAidLightColors = d'.fAidLightColors ∧ d.fAidLightPeriod = d'.fAidLightPeriod ∧ d.fAidSectors = d'.fAidSectors ∧ d.fAidIntensity = d'.fAidIntensity
theorem inCorrection.below {w w' : World} {lo B : Nat} {d : CorrectionD} (h : inCorrection w lo d) (hb : Below B w w') (hB : w.heap.size ≤ B) : inCorrection w' lo d := ⟨SlA.below h.1 hb hB, SlA.below h.2 hb hB⟩
theorem inCorrection.mono {w : World} {lo lo' : Nat} {d : CorrectionD} (h : inCorrection w lo d) (hl : lo' ≤ lo) : inCorrection w lo' d := ⟨SlA.mono h.1 hl, SlA.mono h.2 hl⟩
theorem ownCorrection.below {w w' : World} {lo B : Nat} {d : CorrectionD} (h : ownCorrection w lo d) (hb : Below B w w') (hB : w.heap.size ≤ B) : ownCorrection w' lo d := ⟨SlO.below h.1 hb hB, SlO.below h.2 hb hB⟩
theorem ownCorrection.mono {w : World} {lo lo' : Nat} {d : CorrectionD} (h : ownCorrection w lo d) (hl : lo' ≤ lo) : ownCorrection w lo' d := ⟨SlO.mono h.1 hl, SlO.mono h.2 hl⟩
theorem ownCorrection.in {w : World} {lo : Nat} {d : CorrectionD} (h : ownCorrection w lo d) : inCorrection w lo d := ⟨h.1.1, h.2.1⟩
theorem ownCorrection.setLt {w : World} {lo : Nat} {d : CorrectionD} (h : ownCorrection w lo d) {p : Addr} (hp : p.block < lo) (u : Value) : ownCorrection (w.setCell p u) lo d := ⟨SlO.setLt h.1 hp u, SlO.setLt h.2 hp u⟩
theorem lenCorrection (d : CorrectionD) : (encCorrection d).length = 17 := rfl

end Go.Proofs.Ytjibilibdjfdcaa
