/-
  DERIVED. GIVEN WITH THE SEED: THE CARDS: each row of YtabbhlehbhadiaaDoorRows.lean that lists a variable, with what it lists TIED to the program's text (the seventh form; the later family's looks); each row that meets fmt, with fmt's text TOLD by the authors' own Lean function (tested against real Go, not proved from fmt's source: count such statements apart). THE CARD IS WHAT COUNTS. Prove the row's statement (the work); the ties are given (YtabbhlehbhadiaaDoorTie.lean); close each card by the builder's one call (the guide's Derived/Test/ToyasCard.lean, 'card_holds'). Laid BY PROGRAM, IN A SANDBOX (cutbox-door.mjs). By AI agents, Wed Nov 11 2026. No macro, syntax, notation, axiom, sorry.
-/
import Derived.Test.YtabbhlehbhadiaaDoorRows
import GoSem.ClaimSeven
namespace Go.Proofs.YtabbhlehbhadiaaDoor
namespace Rows

/-- THE TIED CARD OF 'laws.FnDamage'. -/
def fnDamageCard : Claim7 := { stood := { row := fnDamageRow, standIns := [], harness := (true, "90c5bc479198c5c50e7073dc6e4682de46afe6657e8a18191db858fc90f31b2f"), looks := true }, kinds := [], alts := [], laidByText := true, laidKinds := [.data, .data, .data, .data, .sentinel, .sentinel, .pinned], laidTests := true, laidLooks := .later }
def FnDamageCardSaid : Prop := Claim7.holds Tryd.pinned (.plain (OpenSpec.ofChange fnDamageSpec)) fnDamageCard

/-- THE SECOND FORM's CARD OF 'laws.FnDamage'. -/
def fnDamageUptoCard : Claim7 := { stood := { row := fnDamageUptoRow, standIns := [], harness := (true, "90c5bc479198c5c50e7073dc6e4682de46afe6657e8a18191db858fc90f31b2f"), looks := true }, kinds := [], alts := [], laidByText := true, laidKinds := [.data, .data, .data, .data, .sentinel, .sentinel, .pinned], laidTests := true, laidLooks := .later }
def FnDamageUptoCardSaid : Prop := Claim7.holds Tryd.pinned (.plain (OpenSpec.upto fnDamageSpec)) fnDamageUptoCard
end Rows
end Go.Proofs.YtabbhlehbhadiaaDoor
