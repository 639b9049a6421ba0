/-
  DERIVED. GIVEN WITH THE SEED: THE CARDS: each row of YtocpgnpdnoidnaaDoorRows.lean that lists a variable, with what it lists TIED to the program's text (the seventh form; the later family's looks); each row that meets fmt, with fmt's text TOLD by the authors' own Lean function (tested against real Go, not proved from fmt's source: count such statements apart). THE CARD IS WHAT COUNTS. Prove the row's statement (the work); the ties are given (YtocpgnpdnoidnaaDoorTie.lean); close each card by the builder's one call (the guide's Derived/Test/ToyasCard.lean, 'card_holds'). Laid BY PROGRAM, IN A SANDBOX (cutbox-door.mjs). By AI agents, Wed Nov 11 2026. No macro, syntax, notation, axiom, sorry.
-/
import Derived.Test.YtocpgnpdnoidnaaDoorRows
import GoSem.ClaimSeven
namespace Go.Proofs.YtocpgnpdnoidnaaDoor
namespace Rows

/-- THE TIED CARD OF 'laws.FnExactWarningText'. -/
def fnExactWarningTextCard : Claim7 := { stood := { row := fnExactWarningTextRow, standIns := [], harness := (true, "a5141cdcf46473a0d138d03d8584b7bfb646b8bf915c236b083fbecd2cc617b8"), looks := true }, kinds := [], alts := [], laidByText := true, laidKinds := [.data, .data, .data], laidTests := true, laidLooks := .later }
def FnExactWarningTextCardSaid : Prop := Claim7.holds Tryd.pinned (.plain (OpenSpec.ofChange fnExactWarningTextSpec)) fnExactWarningTextCard

/-- THE TIED CARD OF 'laws.FnExactReadWarning'. -/
def fnExactReadWarningCard : Claim7 := { stood := { row := fnExactReadWarningRow, standIns := [], harness := (true, "a5141cdcf46473a0d138d03d8584b7bfb646b8bf915c236b083fbecd2cc617b8"), looks := true }, kinds := [], alts := [], laidByText := true, laidKinds := [.data, .data, .data, .data, .sentinel, .sentinel, .pinned], laidTests := true, laidLooks := .later }
def FnExactReadWarningCardSaid : Prop := Claim7.holds Tryd.pinned (.plain (OpenSpec.ofChange fnExactReadWarningSpec)) fnExactReadWarningCard

/-- THE TIED CARD OF 'laws.FnExactLoadItems'. -/
def fnExactLoadItemsCard : Claim7 := { stood := { row := fnExactLoadItemsRow, standIns := [], harness := (true, "a5141cdcf46473a0d138d03d8584b7bfb646b8bf915c236b083fbecd2cc617b8"), looks := true }, kinds := [], alts := [], laidByText := true, laidKinds := [.data, .data, .data, .data, .sentinel, .sentinel, .pinned], laidTests := true, laidLooks := .later }
def FnExactLoadItemsCardSaid : Prop := Claim7.holds Tryd.pinned (.plain (OpenSpec.ofChange fnExactLoadItemsSpec)) fnExactLoadItemsCard

/-- THE TIED CARD OF 'laws.FnExactDamagedItems'. -/
def fnExactDamagedItemsCard : Claim7 := { stood := { row := fnExactDamagedItemsRow, standIns := [], harness := (true, "a5141cdcf46473a0d138d03d8584b7bfb646b8bf915c236b083fbecd2cc617b8"), looks := true }, kinds := [], alts := [], laidByText := true, laidKinds := [.data, .data, .data, .data, .sentinel, .sentinel, .pinned], laidTests := true, laidLooks := .later }
def FnExactDamagedItemsCardSaid : Prop := Claim7.holds Tryd.pinned (.plain (OpenSpec.ofChange fnExactDamagedItemsSpec)) fnExactDamagedItemsCard

/-- THE TIED CARD OF 'laws.FnExactSalvageItems'. -/
def fnExactSalvageItemsCard : Claim7 := { stood := { row := fnExactSalvageItemsRow, standIns := [], harness := (true, "a5141cdcf46473a0d138d03d8584b7bfb646b8bf915c236b083fbecd2cc617b8"), looks := true }, kinds := [], alts := [], laidByText := true, laidKinds := [.data, .data, .data, .data, .sentinel, .sentinel, .pinned], laidTests := true, laidLooks := .later }
def FnExactSalvageItemsCardSaid : Prop := Claim7.holds Tryd.pinned (.plain (OpenSpec.ofChange fnExactSalvageItemsSpec)) fnExactSalvageItemsCard

/-- THE TIED CARD OF 'laws.FnDamage'. -/
def fnDamageCard : Claim7 := { stood := { row := fnDamageRow, standIns := [], harness := (true, "a5141cdcf46473a0d138d03d8584b7bfb646b8bf915c236b083fbecd2cc617b8"), looks := true }, kinds := [], alts := [], laidByText := true, laidKinds := [.data, .data, .data, .data, .sentinel, .sentinel, .pinned], laidTests := true, laidLooks := .later }
def FnDamageCardSaid : Prop := Claim7.holds Tryd.pinned (.plain (OpenSpec.ofChange fnDamageSpec)) fnDamageCard

/-- THE SECOND FORM's CARD OF 'laws.FnExactWarningText'. -/
def fnExactWarningTextUptoCard : Claim7 := { stood := { row := fnExactWarningTextUptoRow, standIns := [], harness := (true, "a5141cdcf46473a0d138d03d8584b7bfb646b8bf915c236b083fbecd2cc617b8"), looks := true }, kinds := [], alts := [], laidByText := true, laidKinds := [.data, .data, .data], laidTests := true, laidLooks := .later }
def FnExactWarningTextUptoCardSaid : Prop := Claim7.holds Tryd.pinned (.plain (OpenSpec.upto fnExactWarningTextSpec)) fnExactWarningTextUptoCard

/-- THE SECOND FORM's CARD OF 'laws.FnExactReadWarning'. -/
def fnExactReadWarningUptoCard : Claim7 := { stood := { row := fnExactReadWarningUptoRow, standIns := [], harness := (true, "a5141cdcf46473a0d138d03d8584b7bfb646b8bf915c236b083fbecd2cc617b8"), looks := true }, kinds := [], alts := [], laidByText := true, laidKinds := [.data, .data, .data, .data, .sentinel, .sentinel, .pinned], laidTests := true, laidLooks := .later }
def FnExactReadWarningUptoCardSaid : Prop := Claim7.holds Tryd.pinned (.plain (OpenSpec.upto fnExactReadWarningSpec)) fnExactReadWarningUptoCard

/-- THE SECOND FORM's CARD OF 'laws.FnExactLoadItems'. -/
def fnExactLoadItemsUptoCard : Claim7 := { stood := { row := fnExactLoadItemsUptoRow, standIns := [], harness := (true, "a5141cdcf46473a0d138d03d8584b7bfb646b8bf915c236b083fbecd2cc617b8"), looks := true }, kinds := [], alts := [], laidByText := true, laidKinds := [.data, .data, .data, .data, .sentinel, .sentinel, .pinned], laidTests := true, laidLooks := .later }
def FnExactLoadItemsUptoCardSaid : Prop := Claim7.holds Tryd.pinned (.plain (OpenSpec.upto fnExactLoadItemsSpec)) fnExactLoadItemsUptoCard

/-- THE SECOND FORM's CARD OF 'laws.FnExactDamagedItems'. -/
def fnExactDamagedItemsUptoCard : Claim7 := { stood := { row := fnExactDamagedItemsUptoRow, standIns := [], harness := (true, "a5141cdcf46473a0d138d03d8584b7bfb646b8bf915c236b083fbecd2cc617b8"), looks := true }, kinds := [], alts := [], laidByText := true, laidKinds := [.data, .data, .data, .data, .sentinel, .sentinel, .pinned], laidTests := true, laidLooks := .later }
def FnExactDamagedItemsUptoCardSaid : Prop := Claim7.holds Tryd.pinned (.plain (OpenSpec.upto fnExactDamagedItemsSpec)) fnExactDamagedItemsUptoCard

/-- THE SECOND FORM's CARD OF 'laws.FnExactSalvageItems'. -/
def fnExactSalvageItemsUptoCard : Claim7 := { stood := { row := fnExactSalvageItemsUptoRow, standIns := [], harness := (true, "a5141cdcf46473a0d138d03d8584b7bfb646b8bf915c236b083fbecd2cc617b8"), looks := true }, kinds := [], alts := [], laidByText := true, laidKinds := [.data, .data, .data, .data, .sentinel, .sentinel, .pinned], laidTests := true, laidLooks := .later }
def FnExactSalvageItemsUptoCardSaid : Prop := Claim7.holds Tryd.pinned (.plain (OpenSpec.upto fnExactSalvageItemsSpec)) fnExactSalvageItemsUptoCard

/-- THE SECOND FORM's CARD OF 'laws.FnDamage'. -/
def fnDamageUptoCard : Claim7 := { stood := { row := fnDamageUptoRow, standIns := [], harness := (true, "a5141cdcf46473a0d138d03d8584b7bfb646b8bf915c236b083fbecd2cc617b8"), looks := true }, kinds := [], alts := [], laidByText := true, laidKinds := [.data, .data, .data, .data, .sentinel, .sentinel, .pinned], laidTests := true, laidLooks := .later }
def FnDamageUptoCardSaid : Prop := Claim7.holds Tryd.pinned (.plain (OpenSpec.upto fnDamageSpec)) fnDamageUptoCard
end Rows
end Go.Proofs.YtocpgnpdnoidnaaDoor
