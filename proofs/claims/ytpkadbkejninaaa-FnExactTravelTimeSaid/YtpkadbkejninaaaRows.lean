/-
  No cell of these rows narrows 'for every input' (looked for: loops, veiled, ifaces, maps, wideKeys, modest, calm, conditions, laid).
  DERIVED. THE GIVEN ROWS OF THIS SEAT. 12 by the template 'for every input the law returns true; each argument reads behind the call as it read before'; 0 by the template 'total and deterministic' (their statements: YtpkadbkejninaaaTotals.lean).
  GIVEN WITH THE SEED: the statements are not yours to turn. If you find one false, say at which input.
  Laid BY PROGRAM, IN A SANDBOX (cutbox-rows.mjs): the forced cells as the released guide's own fill.sh prints them over the translation bcf8253d514c8931… (all of the seat's roots in one cut). By AI agents, Wed Nov 11 2026. No macro, syntax, notation, axiom, sorry.
-/
import Derived.Test.YtpkadbkejninaaaChecked
import GoSem.Claim
import GoSem.ClaimJoined
import GoSem.ClaimMapViews
import Derived.JoinedTies
import Derived.KernelRfl
namespace Go.Proofs.Ytpkadbkejninaaa
/- THE CELL 'sum', in the pinned program and in every row, IS THE sha256 OF THE DUMP (.gsa) THAT YtpkadbkejninaaaProg.lean LOADS. Nothing in Lean hashes anything: it is a label: what it is worth is what the hold of that sum in a sandbox is worth. -/
noncomputable def Try.pinned : Pinned := { name := "ytpkadbkejninaaa", sum := "bcf8253d514c893197cc85d63ac82e8abc8613c37f5e852b0c8c84f537068405", checked := Try.checked }
namespace Rows
def none {H : Type} : Left H := { results := [], args := [] }

/-- 'laws.FnExactValidShip': WHATEVER THE INPUT: true; the input reads as it did. -/
def fnExactValidShipSpec : ChangeSpec := { name := "fnExactValidShip", fn := fun _ => fun
  | [d] => { results := [.lit (.bool true)], args := [d] }
  | _ => none }
def fnExactValidShipRow : OpenClaim := { program := "ytpkadbkejninaaa", sum := "bcf8253d514c893197cc85d63ac82e8abc8613c37f5e852b0c8c84f537068405", func := "loop.example/g00953/laws.FnExactValidShip", spec := "fnExactValidShip", apart := false }
def FnExactValidShipSaid : Prop := fnExactValidShipRow.holds Try.pinned (OpenSpec.ofChange fnExactValidShipSpec)

/-- ITS FALSE NEIGHBOUR: 'it returns false'. Refute it at one input. -/
def fnExactValidShipWrong : ChangeSpec := { name := "fnExactValidShip", fn := fun _ => fun
  | [d] => { results := [.lit (.bool false)], args := [d] }
  | _ => none }
def FnExactValidShipWrongFalsely : Prop := fnExactValidShipRow.holds Try.pinned (OpenSpec.ofChange fnExactValidShipWrong)

/-- 'laws.FnExactValidWork': WHATEVER THE INPUT: true; the input reads as it did. -/
def fnExactValidWorkSpec : ChangeSpec := { name := "fnExactValidWork", fn := fun _ => fun
  | [d] => { results := [.lit (.bool true)], args := [d] }
  | _ => none }
def fnExactValidWorkRow : OpenClaim := { program := "ytpkadbkejninaaa", sum := "bcf8253d514c893197cc85d63ac82e8abc8613c37f5e852b0c8c84f537068405", func := "loop.example/g00953/laws.FnExactValidWork", spec := "fnExactValidWork", apart := false }
def FnExactValidWorkSaid : Prop := fnExactValidWorkRow.holds Try.pinned (OpenSpec.ofChange fnExactValidWorkSpec)

/-- ITS FALSE NEIGHBOUR: 'it returns false'. Refute it at one input. -/
def fnExactValidWorkWrong : ChangeSpec := { name := "fnExactValidWork", fn := fun _ => fun
  | [d] => { results := [.lit (.bool false)], args := [d] }
  | _ => none }
def FnExactValidWorkWrongFalsely : Prop := fnExactValidWorkRow.holds Try.pinned (OpenSpec.ofChange fnExactValidWorkWrong)

/-- 'laws.FnExactWaitOf': WHATEVER THE INPUT: true; the input reads as it did. -/
def fnExactWaitOfSpec : ChangeSpec := { name := "fnExactWaitOf", fn := fun _ => fun
  | [d] => { results := [.lit (.bool true)], args := [d] }
  | _ => none }
def fnExactWaitOfRow : OpenClaim := { program := "ytpkadbkejninaaa", sum := "bcf8253d514c893197cc85d63ac82e8abc8613c37f5e852b0c8c84f537068405", func := "loop.example/g00953/laws.FnExactWaitOf", spec := "fnExactWaitOf", apart := false }
def FnExactWaitOfSaid : Prop := fnExactWaitOfRow.holds Try.pinned (OpenSpec.ofChange fnExactWaitOfSpec)

/-- ITS FALSE NEIGHBOUR: 'it returns false'. Refute it at one input. -/
def fnExactWaitOfWrong : ChangeSpec := { name := "fnExactWaitOf", fn := fun _ => fun
  | [d] => { results := [.lit (.bool false)], args := [d] }
  | _ => none }
def FnExactWaitOfWrongFalsely : Prop := fnExactWaitOfRow.holds Try.pinned (OpenSpec.ofChange fnExactWaitOfWrong)

/-- 'laws.FnExactValidTide': WHATEVER THE INPUT: true; the input reads as it did. -/
def fnExactValidTideSpec : ChangeSpec := { name := "fnExactValidTide", fn := fun _ => fun
  | [d] => { results := [.lit (.bool true)], args := [d] }
  | _ => none }
def fnExactValidTideRow : OpenClaim := { program := "ytpkadbkejninaaa", sum := "bcf8253d514c893197cc85d63ac82e8abc8613c37f5e852b0c8c84f537068405", func := "loop.example/g00953/laws.FnExactValidTide", spec := "fnExactValidTide", apart := false }
def FnExactValidTideSaid : Prop := fnExactValidTideRow.holds Try.pinned (OpenSpec.ofChange fnExactValidTideSpec)

/-- ITS FALSE NEIGHBOUR: 'it returns false'. Refute it at one input. -/
def fnExactValidTideWrong : ChangeSpec := { name := "fnExactValidTide", fn := fun _ => fun
  | [d] => { results := [.lit (.bool false)], args := [d] }
  | _ => none }
def FnExactValidTideWrongFalsely : Prop := fnExactValidTideRow.holds Try.pinned (OpenSpec.ofChange fnExactValidTideWrong)

/-- 'laws.FnExactSameTide': WHATEVER THE INPUT: true; the input reads as it did. -/
def fnExactSameTideSpec : ChangeSpec := { name := "fnExactSameTide", fn := fun _ => fun
  | [d1, d2] => { results := [.lit (.bool true)], args := [d1, d2] }
  | _ => none }
def fnExactSameTideRow : OpenClaim := { program := "ytpkadbkejninaaa", sum := "bcf8253d514c893197cc85d63ac82e8abc8613c37f5e852b0c8c84f537068405", func := "loop.example/g00953/laws.FnExactSameTide", spec := "fnExactSameTide", apart := false }
def FnExactSameTideSaid : Prop := fnExactSameTideRow.holds Try.pinned (OpenSpec.ofChange fnExactSameTideSpec)

/-- ITS FALSE NEIGHBOUR: 'it returns false'. Refute it at one input. -/
def fnExactSameTideWrong : ChangeSpec := { name := "fnExactSameTide", fn := fun _ => fun
  | [d1, d2] => { results := [.lit (.bool false)], args := [d1, d2] }
  | _ => none }
def FnExactSameTideWrongFalsely : Prop := fnExactSameTideRow.holds Try.pinned (OpenSpec.ofChange fnExactSameTideWrong)

/-- 'laws.FnExactSameItems': WHATEVER THE INPUT: true; the input reads as it did. -/
def fnExactSameItemsSpec : ChangeSpec := { name := "fnExactSameItems", fn := fun _ => fun
  | [d1, d2] => { results := [.lit (.bool true)], args := [d1, d2] }
  | _ => none }
def fnExactSameItemsRow : OpenClaim := { program := "ytpkadbkejninaaa", sum := "bcf8253d514c893197cc85d63ac82e8abc8613c37f5e852b0c8c84f537068405", func := "loop.example/g00953/laws.FnExactSameItems", spec := "fnExactSameItems", apart := false }
def FnExactSameItemsSaid : Prop := fnExactSameItemsRow.holds Try.pinned (OpenSpec.ofChange fnExactSameItemsSpec)

/-- ITS FALSE NEIGHBOUR: 'it returns false'. Refute it at one input. -/
def fnExactSameItemsWrong : ChangeSpec := { name := "fnExactSameItems", fn := fun _ => fun
  | [d1, d2] => { results := [.lit (.bool false)], args := [d1, d2] }
  | _ => none }
def FnExactSameItemsWrongFalsely : Prop := fnExactSameItemsRow.holds Try.pinned (OpenSpec.ofChange fnExactSameItemsWrong)

/-- 'laws.FnExactTideEnd': WHATEVER THE INPUT: true; the input reads as it did. -/
def fnExactTideEndSpec : ChangeSpec := { name := "fnExactTideEnd", fn := fun _ => fun
  | [d] => { results := [.lit (.bool true)], args := [d] }
  | _ => none }
def fnExactTideEndRow : OpenClaim := { program := "ytpkadbkejninaaa", sum := "bcf8253d514c893197cc85d63ac82e8abc8613c37f5e852b0c8c84f537068405", func := "loop.example/g00953/laws.FnExactTideEnd", spec := "fnExactTideEnd", apart := false }
def FnExactTideEndSaid : Prop := fnExactTideEndRow.holds Try.pinned (OpenSpec.ofChange fnExactTideEndSpec)

/-- ITS FALSE NEIGHBOUR: 'it returns false'. Refute it at one input. -/
def fnExactTideEndWrong : ChangeSpec := { name := "fnExactTideEnd", fn := fun _ => fun
  | [d] => { results := [.lit (.bool false)], args := [d] }
  | _ => none }
def FnExactTideEndWrongFalsely : Prop := fnExactTideEndRow.holds Try.pinned (OpenSpec.ofChange fnExactTideEndWrong)

/-- 'laws.FnVoyage': WHATEVER THE INPUT: true; the input reads as it did. -/
def fnVoyageSpec : ChangeSpec := { name := "fnVoyage", fn := fun _ => fun
  | [d1, d2] => { results := [.lit (.bool true)], args := [d1, d2] }
  | _ => none }
def fnVoyageRow : OpenClaim := { program := "ytpkadbkejninaaa", sum := "bcf8253d514c893197cc85d63ac82e8abc8613c37f5e852b0c8c84f537068405", func := "loop.example/g00953/laws.FnVoyage", spec := "fnVoyage", apart := false }
def FnVoyageSaid : Prop := fnVoyageRow.holds Try.pinned (OpenSpec.ofChange fnVoyageSpec)

/-- ITS FALSE NEIGHBOUR: 'it returns false'. Refute it at one input. -/
def fnVoyageWrong : ChangeSpec := { name := "fnVoyage", fn := fun _ => fun
  | [d1, d2] => { results := [.lit (.bool false)], args := [d1, d2] }
  | _ => none }
def FnVoyageWrongFalsely : Prop := fnVoyageRow.holds Try.pinned (OpenSpec.ofChange fnVoyageWrong)

/-- 'laws.FnExactValidItems': WHATEVER THE INPUT: true; the input reads as it did. -/
def fnExactValidItemsSpec : ChangeSpec := { name := "fnExactValidItems", fn := fun _ => fun
  | [d] => { results := [.lit (.bool true)], args := [d] }
  | _ => none }
def fnExactValidItemsRow : OpenClaim := { program := "ytpkadbkejninaaa", sum := "bcf8253d514c893197cc85d63ac82e8abc8613c37f5e852b0c8c84f537068405", func := "loop.example/g00953/laws.FnExactValidItems", spec := "fnExactValidItems", apart := false }
def FnExactValidItemsSaid : Prop := fnExactValidItemsRow.holds Try.pinned (OpenSpec.ofChange fnExactValidItemsSpec)

/-- ITS FALSE NEIGHBOUR: 'it returns false'. Refute it at one input. -/
def fnExactValidItemsWrong : ChangeSpec := { name := "fnExactValidItems", fn := fun _ => fun
  | [d] => { results := [.lit (.bool false)], args := [d] }
  | _ => none }
def FnExactValidItemsWrongFalsely : Prop := fnExactValidItemsRow.holds Try.pinned (OpenSpec.ofChange fnExactValidItemsWrong)

/-- 'laws.FnExactTravelTime': WHATEVER THE INPUT: true; the input reads as it did. -/
def fnExactTravelTimeSpec : ChangeSpec := { name := "fnExactTravelTime", fn := fun _ => fun
  | [d1, d2, d3] => { results := [.lit (.bool true)], args := [d1, d2, d3] }
  | _ => none }
def fnExactTravelTimeRow : OpenClaim := { program := "ytpkadbkejninaaa", sum := "bcf8253d514c893197cc85d63ac82e8abc8613c37f5e852b0c8c84f537068405", func := "loop.example/g00953/laws.FnExactTravelTime", spec := "fnExactTravelTime", apart := false }
def FnExactTravelTimeSaid : Prop := fnExactTravelTimeRow.holds Try.pinned (OpenSpec.ofChange fnExactTravelTimeSpec)

/-- ITS FALSE NEIGHBOUR: 'it returns false'. Refute it at one input. -/
def fnExactTravelTimeWrong : ChangeSpec := { name := "fnExactTravelTime", fn := fun _ => fun
  | [d1, d2, d3] => { results := [.lit (.bool false)], args := [d1, d2, d3] }
  | _ => none }
def FnExactTravelTimeWrongFalsely : Prop := fnExactTravelTimeRow.holds Try.pinned (OpenSpec.ofChange fnExactTravelTimeWrong)

/-- 'laws.FnExactHighWaters': WHATEVER THE INPUT: true; the input reads as it did. -/
def fnExactHighWatersSpec : ChangeSpec := { name := "fnExactHighWaters", fn := fun _ => fun
  | [d] => { results := [.lit (.bool true)], args := [d] }
  | _ => none }
def fnExactHighWatersRow : OpenClaim := { program := "ytpkadbkejninaaa", sum := "bcf8253d514c893197cc85d63ac82e8abc8613c37f5e852b0c8c84f537068405", func := "loop.example/g00953/laws.FnExactHighWaters", spec := "fnExactHighWaters", apart := false }
def FnExactHighWatersSaid : Prop := fnExactHighWatersRow.holds Try.pinned (OpenSpec.ofChange fnExactHighWatersSpec)

/-- ITS FALSE NEIGHBOUR: 'it returns false'. Refute it at one input. -/
def fnExactHighWatersWrong : ChangeSpec := { name := "fnExactHighWaters", fn := fun _ => fun
  | [d] => { results := [.lit (.bool false)], args := [d] }
  | _ => none }
def FnExactHighWatersWrongFalsely : Prop := fnExactHighWatersRow.holds Try.pinned (OpenSpec.ofChange fnExactHighWatersWrong)

/-- 'laws.FnExactItemOf': WHATEVER THE INPUT: true; the input reads as it did. -/
def fnExactItemOfSpec : ChangeSpec := { name := "fnExactItemOf", fn := fun _ => fun
  | [d1, d2] => { results := [.lit (.bool true)], args := [d1, d2] }
  | _ => none }
def fnExactItemOfRow : OpenClaim := { program := "ytpkadbkejninaaa", sum := "bcf8253d514c893197cc85d63ac82e8abc8613c37f5e852b0c8c84f537068405", func := "loop.example/g00953/laws.FnExactItemOf", spec := "fnExactItemOf", apart := false }
def FnExactItemOfSaid : Prop := fnExactItemOfRow.holds Try.pinned (OpenSpec.ofChange fnExactItemOfSpec)

/-- ITS FALSE NEIGHBOUR: 'it returns false'. Refute it at one input. -/
def fnExactItemOfWrong : ChangeSpec := { name := "fnExactItemOf", fn := fun _ => fun
  | [d1, d2] => { results := [.lit (.bool false)], args := [d1, d2] }
  | _ => none }
def FnExactItemOfWrongFalsely : Prop := fnExactItemOfRow.holds Try.pinned (OpenSpec.ofChange fnExactItemOfWrong)

/- THE SECOND FORM. 'bulk': how many values and letters a reading holds, each counted each time it is reached (what is shared counts as often as it is met; a slice's spare places count too). A statement '..UptoSaid' is the law's where the arguments, and the package variables that the reading takes, are together of bulk at most 1048576: NARROWER than '..Said'. Prove '..Said' where nothing that the law and all that it calls make is longer than what came in: it says more and counts as full. Else prove '..UptoSaid'. A law counts once. -/
mutual
def uptoBulk {H : Type} : DataW H → Nat
  | .lit (.string bytes) => bytes.length + 1
  | .lit _ => 1
  | .nil => 1
  | .ptr d => uptoBulk d + 1
  | .slice elems spare => uptoBulkAll elems + uptoBulkAll spare + 1
  | .agg parts => uptoBulkAll parts + 1
  | .iface _ d => uptoBulk d + 1
  | .map entries => uptoBulkEntries entries + 1
  | .held _ => 1
def uptoBulkAll {H : Type} : List (DataW H) → Nat
  | [] => 0
  | d :: r => uptoBulk d + uptoBulkAll r
def uptoBulkEntries {H : Type} : List (Lit × DataW H) → Nat
  | [] => 0
  | x :: r => uptoBulkEntry x + uptoBulkEntries r
def uptoBulkEntry {H : Type} : Lit × DataW H → Nat
  | (.string bytes, d) => bytes.length + uptoBulk d + 1
  | (_, d) => uptoBulk d + 1
 end
def uptoSmall : (H : Type) → List (DataW H) → Bool := fun _ ds => decide (uptoBulkAll ds ≤ 1048576)
def OpenSpec.upto (s : _root_.Go.ChangeSpec) : _root_.Go.OpenSpec := { _root_.Go.OpenSpec.ofChange s with cond := some uptoSmall }

/-- 'laws.FnExactValidShip', WHERE WHAT IT READS IS OF BULK AT MOST 1048576: true; the input reads as it did. -/
def fnExactValidShipUptoRow : OpenClaim := { program := "ytpkadbkejninaaa", sum := "bcf8253d514c893197cc85d63ac82e8abc8613c37f5e852b0c8c84f537068405", func := "loop.example/g00953/laws.FnExactValidShip", spec := "fnExactValidShip", apart := false, narrowed := true }
def FnExactValidShipUptoSaid : Prop := fnExactValidShipUptoRow.holds Try.pinned (OpenSpec.upto fnExactValidShipSpec)

/-- 'laws.FnExactValidWork', WHERE WHAT IT READS IS OF BULK AT MOST 1048576: true; the input reads as it did. -/
def fnExactValidWorkUptoRow : OpenClaim := { program := "ytpkadbkejninaaa", sum := "bcf8253d514c893197cc85d63ac82e8abc8613c37f5e852b0c8c84f537068405", func := "loop.example/g00953/laws.FnExactValidWork", spec := "fnExactValidWork", apart := false, narrowed := true }
def FnExactValidWorkUptoSaid : Prop := fnExactValidWorkUptoRow.holds Try.pinned (OpenSpec.upto fnExactValidWorkSpec)

/-- 'laws.FnExactWaitOf', WHERE WHAT IT READS IS OF BULK AT MOST 1048576: true; the input reads as it did. -/
def fnExactWaitOfUptoRow : OpenClaim := { program := "ytpkadbkejninaaa", sum := "bcf8253d514c893197cc85d63ac82e8abc8613c37f5e852b0c8c84f537068405", func := "loop.example/g00953/laws.FnExactWaitOf", spec := "fnExactWaitOf", apart := false, narrowed := true }
def FnExactWaitOfUptoSaid : Prop := fnExactWaitOfUptoRow.holds Try.pinned (OpenSpec.upto fnExactWaitOfSpec)

/-- 'laws.FnExactValidTide', WHERE WHAT IT READS IS OF BULK AT MOST 1048576: true; the input reads as it did. -/
def fnExactValidTideUptoRow : OpenClaim := { program := "ytpkadbkejninaaa", sum := "bcf8253d514c893197cc85d63ac82e8abc8613c37f5e852b0c8c84f537068405", func := "loop.example/g00953/laws.FnExactValidTide", spec := "fnExactValidTide", apart := false, narrowed := true }
def FnExactValidTideUptoSaid : Prop := fnExactValidTideUptoRow.holds Try.pinned (OpenSpec.upto fnExactValidTideSpec)

/-- 'laws.FnExactSameTide', WHERE WHAT IT READS IS OF BULK AT MOST 1048576: true; the input reads as it did. -/
def fnExactSameTideUptoRow : OpenClaim := { program := "ytpkadbkejninaaa", sum := "bcf8253d514c893197cc85d63ac82e8abc8613c37f5e852b0c8c84f537068405", func := "loop.example/g00953/laws.FnExactSameTide", spec := "fnExactSameTide", apart := false, narrowed := true }
def FnExactSameTideUptoSaid : Prop := fnExactSameTideUptoRow.holds Try.pinned (OpenSpec.upto fnExactSameTideSpec)

/-- 'laws.FnExactSameItems', WHERE WHAT IT READS IS OF BULK AT MOST 1048576: true; the input reads as it did. -/
def fnExactSameItemsUptoRow : OpenClaim := { program := "ytpkadbkejninaaa", sum := "bcf8253d514c893197cc85d63ac82e8abc8613c37f5e852b0c8c84f537068405", func := "loop.example/g00953/laws.FnExactSameItems", spec := "fnExactSameItems", apart := false, narrowed := true }
def FnExactSameItemsUptoSaid : Prop := fnExactSameItemsUptoRow.holds Try.pinned (OpenSpec.upto fnExactSameItemsSpec)

/-- 'laws.FnExactTideEnd', WHERE WHAT IT READS IS OF BULK AT MOST 1048576: true; the input reads as it did. -/
def fnExactTideEndUptoRow : OpenClaim := { program := "ytpkadbkejninaaa", sum := "bcf8253d514c893197cc85d63ac82e8abc8613c37f5e852b0c8c84f537068405", func := "loop.example/g00953/laws.FnExactTideEnd", spec := "fnExactTideEnd", apart := false, narrowed := true }
def FnExactTideEndUptoSaid : Prop := fnExactTideEndUptoRow.holds Try.pinned (OpenSpec.upto fnExactTideEndSpec)

/-- 'laws.FnVoyage', WHERE WHAT IT READS IS OF BULK AT MOST 1048576: true; the input reads as it did. -/
def fnVoyageUptoRow : OpenClaim := { program := "ytpkadbkejninaaa", sum := "bcf8253d514c893197cc85d63ac82e8abc8613c37f5e852b0c8c84f537068405", func := "loop.example/g00953/laws.FnVoyage", spec := "fnVoyage", apart := false, narrowed := true }
def FnVoyageUptoSaid : Prop := fnVoyageUptoRow.holds Try.pinned (OpenSpec.upto fnVoyageSpec)

/-- 'laws.FnExactValidItems', WHERE WHAT IT READS IS OF BULK AT MOST 1048576: true; the input reads as it did. -/
def fnExactValidItemsUptoRow : OpenClaim := { program := "ytpkadbkejninaaa", sum := "bcf8253d514c893197cc85d63ac82e8abc8613c37f5e852b0c8c84f537068405", func := "loop.example/g00953/laws.FnExactValidItems", spec := "fnExactValidItems", apart := false, narrowed := true }
def FnExactValidItemsUptoSaid : Prop := fnExactValidItemsUptoRow.holds Try.pinned (OpenSpec.upto fnExactValidItemsSpec)

/-- 'laws.FnExactTravelTime', WHERE WHAT IT READS IS OF BULK AT MOST 1048576: true; the input reads as it did. -/
def fnExactTravelTimeUptoRow : OpenClaim := { program := "ytpkadbkejninaaa", sum := "bcf8253d514c893197cc85d63ac82e8abc8613c37f5e852b0c8c84f537068405", func := "loop.example/g00953/laws.FnExactTravelTime", spec := "fnExactTravelTime", apart := false, narrowed := true }
def FnExactTravelTimeUptoSaid : Prop := fnExactTravelTimeUptoRow.holds Try.pinned (OpenSpec.upto fnExactTravelTimeSpec)

/-- 'laws.FnExactHighWaters', WHERE WHAT IT READS IS OF BULK AT MOST 1048576: true; the input reads as it did. -/
def fnExactHighWatersUptoRow : OpenClaim := { program := "ytpkadbkejninaaa", sum := "bcf8253d514c893197cc85d63ac82e8abc8613c37f5e852b0c8c84f537068405", func := "loop.example/g00953/laws.FnExactHighWaters", spec := "fnExactHighWaters", apart := false, narrowed := true }
def FnExactHighWatersUptoSaid : Prop := fnExactHighWatersUptoRow.holds Try.pinned (OpenSpec.upto fnExactHighWatersSpec)

/-- 'laws.FnExactItemOf', WHERE WHAT IT READS IS OF BULK AT MOST 1048576: true; the input reads as it did. -/
def fnExactItemOfUptoRow : OpenClaim := { program := "ytpkadbkejninaaa", sum := "bcf8253d514c893197cc85d63ac82e8abc8613c37f5e852b0c8c84f537068405", func := "loop.example/g00953/laws.FnExactItemOf", spec := "fnExactItemOf", apart := false, narrowed := true }
def FnExactItemOfUptoSaid : Prop := fnExactItemOfUptoRow.holds Try.pinned (OpenSpec.upto fnExactItemOfSpec)

end Rows
end Go.Proofs.Ytpkadbkejninaaa
