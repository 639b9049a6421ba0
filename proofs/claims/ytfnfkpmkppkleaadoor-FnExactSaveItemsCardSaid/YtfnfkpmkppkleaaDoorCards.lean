/-
  DERIVED. GIVEN WITH THE SEED: THE CARDS: each row of YtfnfkpmkppkleaaDoorRows.lean that lists a variable, with what it lists TIED to the program's text (the seventh form; the later family's looks); each row that meets fmt, with fmt's text TOLD by the authors' own Lean function (tested against real Go, not proved from fmt's source: count such statements apart). THE CARD IS WHAT COUNTS. Prove the row's statement (the work); the ties are given (YtfnfkpmkppkleaaDoorTie.lean); close each card by the builder's one call (the guide's Derived/Test/ToyasCard.lean, 'card_holds'). Laid BY PROGRAM, IN A SANDBOX (cutbox-door.mjs). By AI agents, Wed Nov 11 2026. No macro, syntax, notation, axiom, sorry.
-/
import Derived.Test.YtfnfkpmkppkleaaDoorRows
import GoSem.ClaimSeven
namespace Go.Proofs.YtfnfkpmkppkleaaDoor
namespace Rows

/-- THE TIED CARD OF 'laws.FnExactShipText'. -/
def fnExactShipTextCard : Claim7 := { stood := { row := fnExactShipTextRow, standIns := [], harness := (true, "04f3f4ddfc61a5e85ef1ca6670c41915208508577ff5294ce260d581f374bd4a"), looks := true }, kinds := [], alts := [], laidByText := true, laidKinds := [.data, .data, .data], laidTests := true, laidLooks := .later }
def FnExactShipTextCardSaid : Prop := Claim7.holds Tryd.pinned (.plain (OpenSpec.ofChange fnExactShipTextSpec)) fnExactShipTextCard

/-- THE TIED CARD OF 'laws.FnExactWorkText'. -/
def fnExactWorkTextCard : Claim7 := { stood := { row := fnExactWorkTextRow, standIns := [], harness := (true, "04f3f4ddfc61a5e85ef1ca6670c41915208508577ff5294ce260d581f374bd4a"), looks := true }, kinds := [], alts := [], laidByText := true, laidKinds := [.data, .data, .data], laidTests := true, laidLooks := .later }
def FnExactWorkTextCardSaid : Prop := Claim7.holds Tryd.pinned (.plain (OpenSpec.ofChange fnExactWorkTextSpec)) fnExactWorkTextCard

/-- THE TIED CARD OF 'laws.FnExactTideText'. -/
def fnExactTideTextCard : Claim7 := { stood := { row := fnExactTideTextRow, standIns := [], harness := (true, "04f3f4ddfc61a5e85ef1ca6670c41915208508577ff5294ce260d581f374bd4a"), looks := true }, kinds := [], alts := [], laidByText := true, laidKinds := [.data, .data, .data], laidTests := true, laidLooks := .later }
def FnExactTideTextCardSaid : Prop := Claim7.holds Tryd.pinned (.plain (OpenSpec.ofChange fnExactTideTextSpec)) fnExactTideTextCard

/-- THE TIED CARD OF 'laws.FnExactSectorsText'. -/
def fnExactSectorsTextCard : Claim7 := { stood := { row := fnExactSectorsTextRow, standIns := [], harness := (true, "04f3f4ddfc61a5e85ef1ca6670c41915208508577ff5294ce260d581f374bd4a"), looks := true }, kinds := [], alts := [], laidByText := true, laidKinds := [.data, .data, .data], laidTests := true, laidLooks := .later }
def FnExactSectorsTextCardSaid : Prop := Claim7.holds Tryd.pinned (.plain (OpenSpec.ofChange fnExactSectorsTextSpec)) fnExactSectorsTextCard

/-- THE TIED CARD OF 'laws.FnExactWarningText'. -/
def fnExactWarningTextCard : Claim7 := { stood := { row := fnExactWarningTextRow, standIns := [], harness := (true, "04f3f4ddfc61a5e85ef1ca6670c41915208508577ff5294ce260d581f374bd4a"), looks := true }, kinds := [], alts := [], laidByText := true, laidKinds := [.data, .data, .data], laidTests := true, laidLooks := .later }
def FnExactWarningTextCardSaid : Prop := Claim7.holds Tryd.pinned (.plain (OpenSpec.ofChange fnExactWarningTextSpec)) fnExactWarningTextCard

/-- THE TIED CARD OF 'laws.FnExactSaveItems'. -/
def fnExactSaveItemsCard : Claim7 := { stood := { row := fnExactSaveItemsRow, standIns := [], harness := (true, "04f3f4ddfc61a5e85ef1ca6670c41915208508577ff5294ce260d581f374bd4a"), looks := true }, kinds := [], alts := [], laidByText := true, laidKinds := [.data, .data, .data], laidTests := true, laidLooks := .later }
def FnExactSaveItemsCardSaid : Prop := Claim7.holds Tryd.pinned (.plain (OpenSpec.ofChange fnExactSaveItemsSpec)) fnExactSaveItemsCard

/-- THE TIED CARD OF 'laws.FnExactReadShip'. -/
def fnExactReadShipCard : Claim7 := { stood := { row := fnExactReadShipRow, standIns := [], harness := (true, "04f3f4ddfc61a5e85ef1ca6670c41915208508577ff5294ce260d581f374bd4a"), looks := true }, kinds := [], alts := [], laidByText := true, laidKinds := [.data, .data, .data, .data, .sentinel, .sentinel, .pinned], laidTests := true, laidLooks := .later }
def FnExactReadShipCardSaid : Prop := Claim7.holds Tryd.pinned (.plain (OpenSpec.ofChange fnExactReadShipSpec)) fnExactReadShipCard

/-- THE TIED CARD OF 'laws.FnExactReadWork'. -/
def fnExactReadWorkCard : Claim7 := { stood := { row := fnExactReadWorkRow, standIns := [], harness := (true, "04f3f4ddfc61a5e85ef1ca6670c41915208508577ff5294ce260d581f374bd4a"), looks := true }, kinds := [], alts := [], laidByText := true, laidKinds := [.data, .data, .data, .data, .sentinel, .sentinel, .pinned], laidTests := true, laidLooks := .later }
def FnExactReadWorkCardSaid : Prop := Claim7.holds Tryd.pinned (.plain (OpenSpec.ofChange fnExactReadWorkSpec)) fnExactReadWorkCard

/-- THE TIED CARD OF 'laws.FnExactReadTide'. -/
def fnExactReadTideCard : Claim7 := { stood := { row := fnExactReadTideRow, standIns := [], harness := (true, "04f3f4ddfc61a5e85ef1ca6670c41915208508577ff5294ce260d581f374bd4a"), looks := true }, kinds := [], alts := [], laidByText := true, laidKinds := [.data, .data, .data, .data, .sentinel, .sentinel, .pinned], laidTests := true, laidLooks := .later }
def FnExactReadTideCardSaid : Prop := Claim7.holds Tryd.pinned (.plain (OpenSpec.ofChange fnExactReadTideSpec)) fnExactReadTideCard

/-- THE TIED CARD OF 'laws.FnExactReadSectors'. -/
def fnExactReadSectorsCard : Claim7 := { stood := { row := fnExactReadSectorsRow, standIns := [], harness := (true, "04f3f4ddfc61a5e85ef1ca6670c41915208508577ff5294ce260d581f374bd4a"), looks := true }, kinds := [], alts := [], laidByText := true, laidKinds := [.data, .data, .data, .data, .sentinel, .sentinel, .pinned], laidTests := true, laidLooks := .later }
def FnExactReadSectorsCardSaid : Prop := Claim7.holds Tryd.pinned (.plain (OpenSpec.ofChange fnExactReadSectorsSpec)) fnExactReadSectorsCard

/-- THE TIED CARD OF 'laws.FnExactReadWarning'. -/
def fnExactReadWarningCard : Claim7 := { stood := { row := fnExactReadWarningRow, standIns := [], harness := (true, "04f3f4ddfc61a5e85ef1ca6670c41915208508577ff5294ce260d581f374bd4a"), looks := true }, kinds := [], alts := [], laidByText := true, laidKinds := [.data, .data, .data, .data, .sentinel, .sentinel, .pinned], laidTests := true, laidLooks := .later }
def FnExactReadWarningCardSaid : Prop := Claim7.holds Tryd.pinned (.plain (OpenSpec.ofChange fnExactReadWarningSpec)) fnExactReadWarningCard

/-- THE TIED CARD OF 'laws.FnExactLoadItems'. -/
def fnExactLoadItemsCard : Claim7 := { stood := { row := fnExactLoadItemsRow, standIns := [], harness := (true, "04f3f4ddfc61a5e85ef1ca6670c41915208508577ff5294ce260d581f374bd4a"), looks := true }, kinds := [], alts := [], laidByText := true, laidKinds := [.data, .data, .data, .data, .sentinel, .sentinel, .pinned], laidTests := true, laidLooks := .later }
def FnExactLoadItemsCardSaid : Prop := Claim7.holds Tryd.pinned (.plain (OpenSpec.ofChange fnExactLoadItemsSpec)) fnExactLoadItemsCard

/-- THE SECOND FORM's CARD OF 'laws.FnExactShipText'. -/
def fnExactShipTextUptoCard : Claim7 := { stood := { row := fnExactShipTextUptoRow, standIns := [], harness := (true, "04f3f4ddfc61a5e85ef1ca6670c41915208508577ff5294ce260d581f374bd4a"), looks := true }, kinds := [], alts := [], laidByText := true, laidKinds := [.data, .data, .data], laidTests := true, laidLooks := .later }
def FnExactShipTextUptoCardSaid : Prop := Claim7.holds Tryd.pinned (.plain (OpenSpec.upto fnExactShipTextSpec)) fnExactShipTextUptoCard

/-- THE SECOND FORM's CARD OF 'laws.FnExactWorkText'. -/
def fnExactWorkTextUptoCard : Claim7 := { stood := { row := fnExactWorkTextUptoRow, standIns := [], harness := (true, "04f3f4ddfc61a5e85ef1ca6670c41915208508577ff5294ce260d581f374bd4a"), looks := true }, kinds := [], alts := [], laidByText := true, laidKinds := [.data, .data, .data], laidTests := true, laidLooks := .later }
def FnExactWorkTextUptoCardSaid : Prop := Claim7.holds Tryd.pinned (.plain (OpenSpec.upto fnExactWorkTextSpec)) fnExactWorkTextUptoCard

/-- THE SECOND FORM's CARD OF 'laws.FnExactTideText'. -/
def fnExactTideTextUptoCard : Claim7 := { stood := { row := fnExactTideTextUptoRow, standIns := [], harness := (true, "04f3f4ddfc61a5e85ef1ca6670c41915208508577ff5294ce260d581f374bd4a"), looks := true }, kinds := [], alts := [], laidByText := true, laidKinds := [.data, .data, .data], laidTests := true, laidLooks := .later }
def FnExactTideTextUptoCardSaid : Prop := Claim7.holds Tryd.pinned (.plain (OpenSpec.upto fnExactTideTextSpec)) fnExactTideTextUptoCard

/-- THE SECOND FORM's CARD OF 'laws.FnExactSectorsText'. -/
def fnExactSectorsTextUptoCard : Claim7 := { stood := { row := fnExactSectorsTextUptoRow, standIns := [], harness := (true, "04f3f4ddfc61a5e85ef1ca6670c41915208508577ff5294ce260d581f374bd4a"), looks := true }, kinds := [], alts := [], laidByText := true, laidKinds := [.data, .data, .data], laidTests := true, laidLooks := .later }
def FnExactSectorsTextUptoCardSaid : Prop := Claim7.holds Tryd.pinned (.plain (OpenSpec.upto fnExactSectorsTextSpec)) fnExactSectorsTextUptoCard

/-- THE SECOND FORM's CARD OF 'laws.FnExactWarningText'. -/
def fnExactWarningTextUptoCard : Claim7 := { stood := { row := fnExactWarningTextUptoRow, standIns := [], harness := (true, "04f3f4ddfc61a5e85ef1ca6670c41915208508577ff5294ce260d581f374bd4a"), looks := true }, kinds := [], alts := [], laidByText := true, laidKinds := [.data, .data, .data], laidTests := true, laidLooks := .later }
def FnExactWarningTextUptoCardSaid : Prop := Claim7.holds Tryd.pinned (.plain (OpenSpec.upto fnExactWarningTextSpec)) fnExactWarningTextUptoCard

/-- THE SECOND FORM's CARD OF 'laws.FnExactSaveItems'. -/
def fnExactSaveItemsUptoCard : Claim7 := { stood := { row := fnExactSaveItemsUptoRow, standIns := [], harness := (true, "04f3f4ddfc61a5e85ef1ca6670c41915208508577ff5294ce260d581f374bd4a"), looks := true }, kinds := [], alts := [], laidByText := true, laidKinds := [.data, .data, .data], laidTests := true, laidLooks := .later }
def FnExactSaveItemsUptoCardSaid : Prop := Claim7.holds Tryd.pinned (.plain (OpenSpec.upto fnExactSaveItemsSpec)) fnExactSaveItemsUptoCard

/-- THE SECOND FORM's CARD OF 'laws.FnExactReadShip'. -/
def fnExactReadShipUptoCard : Claim7 := { stood := { row := fnExactReadShipUptoRow, standIns := [], harness := (true, "04f3f4ddfc61a5e85ef1ca6670c41915208508577ff5294ce260d581f374bd4a"), looks := true }, kinds := [], alts := [], laidByText := true, laidKinds := [.data, .data, .data, .data, .sentinel, .sentinel, .pinned], laidTests := true, laidLooks := .later }
def FnExactReadShipUptoCardSaid : Prop := Claim7.holds Tryd.pinned (.plain (OpenSpec.upto fnExactReadShipSpec)) fnExactReadShipUptoCard

/-- THE SECOND FORM's CARD OF 'laws.FnExactReadWork'. -/
def fnExactReadWorkUptoCard : Claim7 := { stood := { row := fnExactReadWorkUptoRow, standIns := [], harness := (true, "04f3f4ddfc61a5e85ef1ca6670c41915208508577ff5294ce260d581f374bd4a"), looks := true }, kinds := [], alts := [], laidByText := true, laidKinds := [.data, .data, .data, .data, .sentinel, .sentinel, .pinned], laidTests := true, laidLooks := .later }
def FnExactReadWorkUptoCardSaid : Prop := Claim7.holds Tryd.pinned (.plain (OpenSpec.upto fnExactReadWorkSpec)) fnExactReadWorkUptoCard

/-- THE SECOND FORM's CARD OF 'laws.FnExactReadTide'. -/
def fnExactReadTideUptoCard : Claim7 := { stood := { row := fnExactReadTideUptoRow, standIns := [], harness := (true, "04f3f4ddfc61a5e85ef1ca6670c41915208508577ff5294ce260d581f374bd4a"), looks := true }, kinds := [], alts := [], laidByText := true, laidKinds := [.data, .data, .data, .data, .sentinel, .sentinel, .pinned], laidTests := true, laidLooks := .later }
def FnExactReadTideUptoCardSaid : Prop := Claim7.holds Tryd.pinned (.plain (OpenSpec.upto fnExactReadTideSpec)) fnExactReadTideUptoCard

/-- THE SECOND FORM's CARD OF 'laws.FnExactReadSectors'. -/
def fnExactReadSectorsUptoCard : Claim7 := { stood := { row := fnExactReadSectorsUptoRow, standIns := [], harness := (true, "04f3f4ddfc61a5e85ef1ca6670c41915208508577ff5294ce260d581f374bd4a"), looks := true }, kinds := [], alts := [], laidByText := true, laidKinds := [.data, .data, .data, .data, .sentinel, .sentinel, .pinned], laidTests := true, laidLooks := .later }
def FnExactReadSectorsUptoCardSaid : Prop := Claim7.holds Tryd.pinned (.plain (OpenSpec.upto fnExactReadSectorsSpec)) fnExactReadSectorsUptoCard

/-- THE SECOND FORM's CARD OF 'laws.FnExactReadWarning'. -/
def fnExactReadWarningUptoCard : Claim7 := { stood := { row := fnExactReadWarningUptoRow, standIns := [], harness := (true, "04f3f4ddfc61a5e85ef1ca6670c41915208508577ff5294ce260d581f374bd4a"), looks := true }, kinds := [], alts := [], laidByText := true, laidKinds := [.data, .data, .data, .data, .sentinel, .sentinel, .pinned], laidTests := true, laidLooks := .later }
def FnExactReadWarningUptoCardSaid : Prop := Claim7.holds Tryd.pinned (.plain (OpenSpec.upto fnExactReadWarningSpec)) fnExactReadWarningUptoCard

/-- THE SECOND FORM's CARD OF 'laws.FnExactLoadItems'. -/
def fnExactLoadItemsUptoCard : Claim7 := { stood := { row := fnExactLoadItemsUptoRow, standIns := [], harness := (true, "04f3f4ddfc61a5e85ef1ca6670c41915208508577ff5294ce260d581f374bd4a"), looks := true }, kinds := [], alts := [], laidByText := true, laidKinds := [.data, .data, .data, .data, .sentinel, .sentinel, .pinned], laidTests := true, laidLooks := .later }
def FnExactLoadItemsUptoCardSaid : Prop := Claim7.holds Tryd.pinned (.plain (OpenSpec.upto fnExactLoadItemsSpec)) fnExactLoadItemsUptoCard
end Rows
end Go.Proofs.YtfnfkpmkppkleaaDoor
