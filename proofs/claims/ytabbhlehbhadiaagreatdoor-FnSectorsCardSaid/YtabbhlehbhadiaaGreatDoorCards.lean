/-
  DERIVED. GIVEN WITH THE SEED: THE CARDS: each row of YtabbhlehbhadiaaGreatDoorRows.lean that lists a variable, with what it lists TIED to the program's text (the seventh form; the later family's looks); each row that meets fmt, with fmt's text TOLD by the authors' own Lean function (tested against real Go, not proved from fmt's source: count such statements apart). THE CARD IS WHAT COUNTS. Prove the row's statement (the work); the ties are given (YtabbhlehbhadiaaGreatDoorTie.lean); close each card by the builder's one call (the guide's Derived/Test/ToyasCard.lean, 'card_holds'). Laid BY PROGRAM, IN A SANDBOX (cutbox-door.mjs). By AI agents, Wed Nov 11 2026. No macro, syntax, notation, axiom, sorry.
-/
import Derived.Test.YtabbhlehbhadiaaGreatDoorRows
import GoSem.ClaimSeven
namespace Go.Proofs.YtabbhlehbhadiaaGreatDoor
namespace Rows

/-- THE TIED CARD OF 'laws.FnTides'. -/
def fnTidesCard : Claim7 := { stood := { row := fnTidesRow, standIns := [], harness := (true, "d830ee3d7ff6e847c5a936e5009a94b107fe089926533acd87ef86f9cbb2b22a"), looks := true }, kinds := [], alts := [], laidByText := true, laidKinds := [.data, .data, .data, .data, .sentinel, .sentinel, .pinned], laidTests := true, laidLooks := .later }
def FnTidesCardSaid : Prop := Claim7.holds Tryz.pinned (.plain (OpenSpec.ofChange fnTidesSpec)) fnTidesCard

/-- THE TIED CARD OF 'laws.FnSectors'. -/
def fnSectorsCard : Claim7 := { stood := { row := fnSectorsRow, standIns := [], harness := (true, "d830ee3d7ff6e847c5a936e5009a94b107fe089926533acd87ef86f9cbb2b22a"), looks := true }, kinds := [], alts := [], laidByText := true, laidKinds := [.data, .data, .data, .data, .sentinel, .sentinel, .pinned], laidTests := true, laidLooks := .later }
def FnSectorsCardSaid : Prop := Claim7.holds Tryz.pinned (.plain (OpenSpec.ofChange fnSectorsSpec)) fnSectorsCard

/-- THE SECOND FORM's CARD OF 'laws.FnTides'. -/
def fnTidesUptoCard : Claim7 := { stood := { row := fnTidesUptoRow, standIns := [], harness := (true, "d830ee3d7ff6e847c5a936e5009a94b107fe089926533acd87ef86f9cbb2b22a"), looks := true }, kinds := [], alts := [], laidByText := true, laidKinds := [.data, .data, .data, .data, .sentinel, .sentinel, .pinned], laidTests := true, laidLooks := .later }
def FnTidesUptoCardSaid : Prop := Claim7.holds Tryz.pinned (.plain (OpenSpec.upto fnTidesSpec)) fnTidesUptoCard

/-- THE SECOND FORM's CARD OF 'laws.FnSectors'. -/
def fnSectorsUptoCard : Claim7 := { stood := { row := fnSectorsUptoRow, standIns := [], harness := (true, "d830ee3d7ff6e847c5a936e5009a94b107fe089926533acd87ef86f9cbb2b22a"), looks := true }, kinds := [], alts := [], laidByText := true, laidKinds := [.data, .data, .data, .data, .sentinel, .sentinel, .pinned], laidTests := true, laidLooks := .later }
def FnSectorsUptoCardSaid : Prop := Claim7.holds Tryz.pinned (.plain (OpenSpec.upto fnSectorsSpec)) fnSectorsUptoCard
end Rows
end Go.Proofs.YtabbhlehbhadiaaGreatDoor
