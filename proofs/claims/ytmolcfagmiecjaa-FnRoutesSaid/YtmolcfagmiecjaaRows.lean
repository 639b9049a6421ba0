/-
  No cell of these rows narrows 'for every input' (looked for: loops, veiled, ifaces, maps, wideKeys, modest, calm, conditions, laid).
  DERIVED. THE GIVEN ROWS OF THIS SEAT. 12 by the template 'for every input the law returns true; each argument reads behind the call as it read before'; 0 by the template 'total and deterministic' (their statements: YtmolcfagmiecjaaTotals.lean).
  GIVEN WITH THE SEED: the statements are not yours to turn. If you find one false, say at which input.
  Laid BY PROGRAM, IN A SANDBOX (cutbox-rows.mjs): the forced cells as the released guide's own fill.sh prints them over the translation 98b859e0e3d9183f… (all of the seat's roots in one cut). By AI agents, Wed Nov 11 2026. No macro, syntax, notation, axiom, sorry.
-/
import Derived.Test.YtmolcfagmiecjaaChecked
import GoSem.Claim
import GoSem.ClaimJoined
import GoSem.ClaimMapViews
import Derived.JoinedTies
import Derived.KernelRfl
namespace Go.Proofs.Ytmolcfagmiecjaa
/- THE CELL 'sum', in the pinned program and in every row, IS THE sha256 OF THE DUMP (.gsa) THAT YtmolcfagmiecjaaProg.lean LOADS. Nothing in Lean hashes anything: it is a label: what it is worth is what the hold of that sum in a sandbox is worth. -/
noncomputable def Try.pinned : Pinned := { name := "ytmolcfagmiecjaa", sum := "98b859e0e3d9183f5a2c5291e6f06abef6e7fe4e3d63ed6f2a0aadf479ba103f", checked := Try.checked }
namespace Rows
def none {H : Type} : Left H := { results := [], args := [] }

/-- 'laws.FnVoyage': WHATEVER THE INPUT: true; the input reads as it did. -/
def fnVoyageSpec : ChangeSpec := { name := "fnVoyage", fn := fun _ => fun
  | [d1, d2] => { results := [.lit (.bool true)], args := [d1, d2] }
  | _ => none }
def fnVoyageRow : OpenClaim := { program := "ytmolcfagmiecjaa", sum := "98b859e0e3d9183f5a2c5291e6f06abef6e7fe4e3d63ed6f2a0aadf479ba103f", func := "loop.example/g00953/laws.FnVoyage", spec := "fnVoyage", apart := false }
def FnVoyageSaid : Prop := fnVoyageRow.holds Try.pinned (OpenSpec.ofChange fnVoyageSpec)

/-- ITS FALSE NEIGHBOUR: 'it returns false'. Refute it at one input. -/
def fnVoyageWrong : ChangeSpec := { name := "fnVoyage", fn := fun _ => fun
  | [d1, d2] => { results := [.lit (.bool false)], args := [d1, d2] }
  | _ => none }
def FnVoyageWrongFalsely : Prop := fnVoyageRow.holds Try.pinned (OpenSpec.ofChange fnVoyageWrong)

/-- 'laws.FnExactValidWorks': WHATEVER THE INPUT: true; the input reads as it did. -/
def fnExactValidWorksSpec : ChangeSpec := { name := "fnExactValidWorks", fn := fun _ => fun
  | [d] => { results := [.lit (.bool true)], args := [d] }
  | _ => none }
def fnExactValidWorksRow : OpenClaim := { program := "ytmolcfagmiecjaa", sum := "98b859e0e3d9183f5a2c5291e6f06abef6e7fe4e3d63ed6f2a0aadf479ba103f", func := "loop.example/g00953/laws.FnExactValidWorks", spec := "fnExactValidWorks", apart := false }
def FnExactValidWorksSaid : Prop := fnExactValidWorksRow.holds Try.pinned (OpenSpec.ofChange fnExactValidWorksSpec)

/-- ITS FALSE NEIGHBOUR: 'it returns false'. Refute it at one input. -/
def fnExactValidWorksWrong : ChangeSpec := { name := "fnExactValidWorks", fn := fun _ => fun
  | [d] => { results := [.lit (.bool false)], args := [d] }
  | _ => none }
def FnExactValidWorksWrongFalsely : Prop := fnExactValidWorksRow.holds Try.pinned (OpenSpec.ofChange fnExactValidWorksWrong)

/-- 'laws.FnRoutes': WHATEVER THE INPUT: true; the input reads as it did. -/
def fnRoutesSpec : ChangeSpec := { name := "fnRoutes", fn := fun _ => fun
  | [d1, d2] => { results := [.lit (.bool true)], args := [d1, d2] }
  | _ => none }
def fnRoutesRow : OpenClaim := { program := "ytmolcfagmiecjaa", sum := "98b859e0e3d9183f5a2c5291e6f06abef6e7fe4e3d63ed6f2a0aadf479ba103f", func := "loop.example/g00953/laws.FnRoutes", spec := "fnRoutes", unfollowed := true, recurses := true, apart := false }
def FnRoutesSaid : Prop := fnRoutesRow.holds Try.pinned (OpenSpec.ofChange fnRoutesSpec)

/-- ITS FALSE NEIGHBOUR: 'it returns false'. Refute it at one input. -/
def fnRoutesWrong : ChangeSpec := { name := "fnRoutes", fn := fun _ => fun
  | [d1, d2] => { results := [.lit (.bool false)], args := [d1, d2] }
  | _ => none }
def FnRoutesWrongFalsely : Prop := fnRoutesRow.holds Try.pinned (OpenSpec.ofChange fnRoutesWrong)

/-- 'laws.FnExactLoadOf': WHATEVER THE INPUT: true; the input reads as it did. -/
def fnExactLoadOfSpec : ChangeSpec := { name := "fnExactLoadOf", fn := fun _ => fun
  | [d1, d2] => { results := [.lit (.bool true)], args := [d1, d2] }
  | _ => none }
def fnExactLoadOfRow : OpenClaim := { program := "ytmolcfagmiecjaa", sum := "98b859e0e3d9183f5a2c5291e6f06abef6e7fe4e3d63ed6f2a0aadf479ba103f", func := "loop.example/g00953/laws.FnExactLoadOf", spec := "fnExactLoadOf", apart := false }
def FnExactLoadOfSaid : Prop := fnExactLoadOfRow.holds Try.pinned (OpenSpec.ofChange fnExactLoadOfSpec)

/-- ITS FALSE NEIGHBOUR: 'it returns false'. Refute it at one input. -/
def fnExactLoadOfWrong : ChangeSpec := { name := "fnExactLoadOf", fn := fun _ => fun
  | [d1, d2] => { results := [.lit (.bool false)], args := [d1, d2] }
  | _ => none }
def FnExactLoadOfWrongFalsely : Prop := fnExactLoadOfRow.holds Try.pinned (OpenSpec.ofChange fnExactLoadOfWrong)

/-- 'laws.FnExactRestOf': WHATEVER THE INPUT: true; the input reads as it did. -/
def fnExactRestOfSpec : ChangeSpec := { name := "fnExactRestOf", fn := fun _ => fun
  | [d1, d2] => { results := [.lit (.bool true)], args := [d1, d2] }
  | _ => none }
def fnExactRestOfRow : OpenClaim := { program := "ytmolcfagmiecjaa", sum := "98b859e0e3d9183f5a2c5291e6f06abef6e7fe4e3d63ed6f2a0aadf479ba103f", func := "loop.example/g00953/laws.FnExactRestOf", spec := "fnExactRestOf", apart := false }
def FnExactRestOfSaid : Prop := fnExactRestOfRow.holds Try.pinned (OpenSpec.ofChange fnExactRestOfSpec)

/-- ITS FALSE NEIGHBOUR: 'it returns false'. Refute it at one input. -/
def fnExactRestOfWrong : ChangeSpec := { name := "fnExactRestOf", fn := fun _ => fun
  | [d1, d2] => { results := [.lit (.bool false)], args := [d1, d2] }
  | _ => none }
def FnExactRestOfWrongFalsely : Prop := fnExactRestOfRow.holds Try.pinned (OpenSpec.ofChange fnExactRestOfWrong)

/-- 'laws.FnExactLatestStart': WHATEVER THE INPUT: true; the input reads as it did. -/
def fnExactLatestStartSpec : ChangeSpec := { name := "fnExactLatestStart", fn := fun _ => fun
  | [d1, d2, d3, d4] => { results := [.lit (.bool true)], args := [d1, d2, d3, d4] }
  | _ => none }
def fnExactLatestStartRow : OpenClaim := { program := "ytmolcfagmiecjaa", sum := "98b859e0e3d9183f5a2c5291e6f06abef6e7fe4e3d63ed6f2a0aadf479ba103f", func := "loop.example/g00953/laws.FnExactLatestStart", spec := "fnExactLatestStart", apart := false }
def FnExactLatestStartSaid : Prop := fnExactLatestStartRow.holds Try.pinned (OpenSpec.ofChange fnExactLatestStartSpec)

/-- ITS FALSE NEIGHBOUR: 'it returns false'. Refute it at one input. -/
def fnExactLatestStartWrong : ChangeSpec := { name := "fnExactLatestStart", fn := fun _ => fun
  | [d1, d2, d3, d4] => { results := [.lit (.bool false)], args := [d1, d2, d3, d4] }
  | _ => none }
def FnExactLatestStartWrongFalsely : Prop := fnExactLatestStartRow.holds Try.pinned (OpenSpec.ofChange fnExactLatestStartWrong)

/-- 'laws.FnExactVoyageEnd': WHATEVER THE INPUT: true; the input reads as it did. -/
def fnExactVoyageEndSpec : ChangeSpec := { name := "fnExactVoyageEnd", fn := fun _ => fun
  | [d1, d2, d3, d4, d5] => { results := [.lit (.bool true)], args := [d1, d2, d3, d4, d5] }
  | _ => none }
def fnExactVoyageEndRow : OpenClaim := { program := "ytmolcfagmiecjaa", sum := "98b859e0e3d9183f5a2c5291e6f06abef6e7fe4e3d63ed6f2a0aadf479ba103f", func := "loop.example/g00953/laws.FnExactVoyageEnd", spec := "fnExactVoyageEnd", apart := false }
def FnExactVoyageEndSaid : Prop := fnExactVoyageEndRow.holds Try.pinned (OpenSpec.ofChange fnExactVoyageEndSpec)

/-- ITS FALSE NEIGHBOUR: 'it returns false'. Refute it at one input. -/
def fnExactVoyageEndWrong : ChangeSpec := { name := "fnExactVoyageEnd", fn := fun _ => fun
  | [d1, d2, d3, d4, d5] => { results := [.lit (.bool false)], args := [d1, d2, d3, d4, d5] }
  | _ => none }
def FnExactVoyageEndWrongFalsely : Prop := fnExactVoyageEndRow.holds Try.pinned (OpenSpec.ofChange fnExactVoyageEndWrong)

/-- 'laws.FnExactGreedyVoyage': WHATEVER THE INPUT: true; the input reads as it did. -/
def fnExactGreedyVoyageSpec : ChangeSpec := { name := "fnExactGreedyVoyage", fn := fun _ => fun
  | [d1, d2, d3, d4] => { results := [.lit (.bool true)], args := [d1, d2, d3, d4] }
  | _ => none }
def fnExactGreedyVoyageRow : OpenClaim := { program := "ytmolcfagmiecjaa", sum := "98b859e0e3d9183f5a2c5291e6f06abef6e7fe4e3d63ed6f2a0aadf479ba103f", func := "loop.example/g00953/laws.FnExactGreedyVoyage", spec := "fnExactGreedyVoyage", apart := false }
def FnExactGreedyVoyageSaid : Prop := fnExactGreedyVoyageRow.holds Try.pinned (OpenSpec.ofChange fnExactGreedyVoyageSpec)

/-- ITS FALSE NEIGHBOUR: 'it returns false'. Refute it at one input. -/
def fnExactGreedyVoyageWrong : ChangeSpec := { name := "fnExactGreedyVoyage", fn := fun _ => fun
  | [d1, d2, d3, d4] => { results := [.lit (.bool false)], args := [d1, d2, d3, d4] }
  | _ => none }
def FnExactGreedyVoyageWrongFalsely : Prop := fnExactGreedyVoyageRow.holds Try.pinned (OpenSpec.ofChange fnExactGreedyVoyageWrong)

/-- 'laws.FnExactCountVoyages': WHATEVER THE INPUT: true; the input reads as it did. -/
def fnExactCountVoyagesSpec : ChangeSpec := { name := "fnExactCountVoyages", fn := fun _ => fun
  | [d1, d2, d3, d4, d5] => { results := [.lit (.bool true)], args := [d1, d2, d3, d4, d5] }
  | _ => none }
def fnExactCountVoyagesRow : OpenClaim := { program := "ytmolcfagmiecjaa", sum := "98b859e0e3d9183f5a2c5291e6f06abef6e7fe4e3d63ed6f2a0aadf479ba103f", func := "loop.example/g00953/laws.FnExactCountVoyages", spec := "fnExactCountVoyages", unfollowed := true, recurses := true, apart := false }
def FnExactCountVoyagesSaid : Prop := fnExactCountVoyagesRow.holds Try.pinned (OpenSpec.ofChange fnExactCountVoyagesSpec)

/-- ITS FALSE NEIGHBOUR: 'it returns false'. Refute it at one input. -/
def fnExactCountVoyagesWrong : ChangeSpec := { name := "fnExactCountVoyages", fn := fun _ => fun
  | [d1, d2, d3, d4, d5] => { results := [.lit (.bool false)], args := [d1, d2, d3, d4, d5] }
  | _ => none }
def FnExactCountVoyagesWrongFalsely : Prop := fnExactCountVoyagesRow.holds Try.pinned (OpenSpec.ofChange fnExactCountVoyagesWrong)

/-- 'laws.FnExactVoyageOf': WHATEVER THE INPUT: true; the input reads as it did. -/
def fnExactVoyageOfSpec : ChangeSpec := { name := "fnExactVoyageOf", fn := fun _ => fun
  | [d1, d2, d3, d4, d5] => { results := [.lit (.bool true)], args := [d1, d2, d3, d4, d5] }
  | _ => none }
def fnExactVoyageOfRow : OpenClaim := { program := "ytmolcfagmiecjaa", sum := "98b859e0e3d9183f5a2c5291e6f06abef6e7fe4e3d63ed6f2a0aadf479ba103f", func := "loop.example/g00953/laws.FnExactVoyageOf", spec := "fnExactVoyageOf", apart := false }
def FnExactVoyageOfSaid : Prop := fnExactVoyageOfRow.holds Try.pinned (OpenSpec.ofChange fnExactVoyageOfSpec)

/-- ITS FALSE NEIGHBOUR: 'it returns false'. Refute it at one input. -/
def fnExactVoyageOfWrong : ChangeSpec := { name := "fnExactVoyageOf", fn := fun _ => fun
  | [d1, d2, d3, d4, d5] => { results := [.lit (.bool false)], args := [d1, d2, d3, d4, d5] }
  | _ => none }
def FnExactVoyageOfWrongFalsely : Prop := fnExactVoyageOfRow.holds Try.pinned (OpenSpec.ofChange fnExactVoyageOfWrong)

/-- 'laws.FnExactMostWorks': WHATEVER THE INPUT: true; the input reads as it did. -/
def fnExactMostWorksSpec : ChangeSpec := { name := "fnExactMostWorks", fn := fun _ => fun
  | [d1, d2, d3, d4, d5] => { results := [.lit (.bool true)], args := [d1, d2, d3, d4, d5] }
  | _ => none }
def fnExactMostWorksRow : OpenClaim := { program := "ytmolcfagmiecjaa", sum := "98b859e0e3d9183f5a2c5291e6f06abef6e7fe4e3d63ed6f2a0aadf479ba103f", func := "loop.example/g00953/laws.FnExactMostWorks", spec := "fnExactMostWorks", unfollowed := true, recurses := true, apart := false }
def FnExactMostWorksSaid : Prop := fnExactMostWorksRow.holds Try.pinned (OpenSpec.ofChange fnExactMostWorksSpec)

/-- ITS FALSE NEIGHBOUR: 'it returns false'. Refute it at one input. -/
def fnExactMostWorksWrong : ChangeSpec := { name := "fnExactMostWorks", fn := fun _ => fun
  | [d1, d2, d3, d4, d5] => { results := [.lit (.bool false)], args := [d1, d2, d3, d4, d5] }
  | _ => none }
def FnExactMostWorksWrongFalsely : Prop := fnExactMostWorksRow.holds Try.pinned (OpenSpec.ofChange fnExactMostWorksWrong)

/-- 'laws.FnExactFirstVoyage': WHATEVER THE INPUT: true; the input reads as it did. -/
def fnExactFirstVoyageSpec : ChangeSpec := { name := "fnExactFirstVoyage", fn := fun _ => fun
  | [d1, d2, d3, d4, d5] => { results := [.lit (.bool true)], args := [d1, d2, d3, d4, d5] }
  | _ => none }
def fnExactFirstVoyageRow : OpenClaim := { program := "ytmolcfagmiecjaa", sum := "98b859e0e3d9183f5a2c5291e6f06abef6e7fe4e3d63ed6f2a0aadf479ba103f", func := "loop.example/g00953/laws.FnExactFirstVoyage", spec := "fnExactFirstVoyage", unfollowed := true, recurses := true, apart := false }
def FnExactFirstVoyageSaid : Prop := fnExactFirstVoyageRow.holds Try.pinned (OpenSpec.ofChange fnExactFirstVoyageSpec)

/-- ITS FALSE NEIGHBOUR: 'it returns false'. Refute it at one input. -/
def fnExactFirstVoyageWrong : ChangeSpec := { name := "fnExactFirstVoyage", fn := fun _ => fun
  | [d1, d2, d3, d4, d5] => { results := [.lit (.bool false)], args := [d1, d2, d3, d4, d5] }
  | _ => none }
def FnExactFirstVoyageWrongFalsely : Prop := fnExactFirstVoyageRow.holds Try.pinned (OpenSpec.ofChange fnExactFirstVoyageWrong)

/- THE SECOND FORM. 'bulk': how many values and letters a reading holds, each counted each time it is reached (what is shared counts as often as it is met; a slice's spare places count too). A statement '..UptoSaid' is the law's where the arguments, and the package variables that the reading takes, are together of bulk at most 1048576: NARROWER than '..Said'. Prove '..Said' where nothing that the law and all that it calls make is longer than what came in: it says more and counts as full. Else prove '..UptoSaid'. A law counts once. -/
mutual
def uptoBulk {H : Type} : DataW H → Nat
  | .lit (.string bytes) => bytes.length + 1
  | .lit _ => 1
  | .nil => 1
  | .ptr d => uptoBulk d + 1
  | .slice elems spare => uptoBulkAll elems + uptoBulkAll spare + 1
  | .agg parts => uptoBulkAll parts + 1
  | .iface _ d => uptoBulk d + 1
  | .map entries => uptoBulkEntries entries + 1
  | .held _ => 1
def uptoBulkAll {H : Type} : List (DataW H) → Nat
  | [] => 0
  | d :: r => uptoBulk d + uptoBulkAll r
def uptoBulkEntries {H : Type} : List (Lit × DataW H) → Nat
  | [] => 0
  | x :: r => uptoBulkEntry x + uptoBulkEntries r
def uptoBulkEntry {H : Type} : Lit × DataW H → Nat
  | (.string bytes, d) => bytes.length + uptoBulk d + 1
  | (_, d) => uptoBulk d + 1
 end
def uptoSmall : (H : Type) → List (DataW H) → Bool := fun _ ds => decide (uptoBulkAll ds ≤ 1048576)
def OpenSpec.upto (s : _root_.Go.ChangeSpec) : _root_.Go.OpenSpec := { _root_.Go.OpenSpec.ofChange s with cond := some uptoSmall }

/-- 'laws.FnVoyage', WHERE WHAT IT READS IS OF BULK AT MOST 1048576: true; the input reads as it did. -/
def fnVoyageUptoRow : OpenClaim := { program := "ytmolcfagmiecjaa", sum := "98b859e0e3d9183f5a2c5291e6f06abef6e7fe4e3d63ed6f2a0aadf479ba103f", func := "loop.example/g00953/laws.FnVoyage", spec := "fnVoyage", apart := false, narrowed := true }
def FnVoyageUptoSaid : Prop := fnVoyageUptoRow.holds Try.pinned (OpenSpec.upto fnVoyageSpec)

/-- 'laws.FnExactValidWorks', WHERE WHAT IT READS IS OF BULK AT MOST 1048576: true; the input reads as it did. -/
def fnExactValidWorksUptoRow : OpenClaim := { program := "ytmolcfagmiecjaa", sum := "98b859e0e3d9183f5a2c5291e6f06abef6e7fe4e3d63ed6f2a0aadf479ba103f", func := "loop.example/g00953/laws.FnExactValidWorks", spec := "fnExactValidWorks", apart := false, narrowed := true }
def FnExactValidWorksUptoSaid : Prop := fnExactValidWorksUptoRow.holds Try.pinned (OpenSpec.upto fnExactValidWorksSpec)

/-- 'laws.FnRoutes', WHERE WHAT IT READS IS OF BULK AT MOST 1048576: true; the input reads as it did. -/
def fnRoutesUptoRow : OpenClaim := { program := "ytmolcfagmiecjaa", sum := "98b859e0e3d9183f5a2c5291e6f06abef6e7fe4e3d63ed6f2a0aadf479ba103f", func := "loop.example/g00953/laws.FnRoutes", spec := "fnRoutes", unfollowed := true, recurses := true, apart := false, narrowed := true }
def FnRoutesUptoSaid : Prop := fnRoutesUptoRow.holds Try.pinned (OpenSpec.upto fnRoutesSpec)

/-- 'laws.FnExactLoadOf', WHERE WHAT IT READS IS OF BULK AT MOST 1048576: true; the input reads as it did. -/
def fnExactLoadOfUptoRow : OpenClaim := { program := "ytmolcfagmiecjaa", sum := "98b859e0e3d9183f5a2c5291e6f06abef6e7fe4e3d63ed6f2a0aadf479ba103f", func := "loop.example/g00953/laws.FnExactLoadOf", spec := "fnExactLoadOf", apart := false, narrowed := true }
def FnExactLoadOfUptoSaid : Prop := fnExactLoadOfUptoRow.holds Try.pinned (OpenSpec.upto fnExactLoadOfSpec)

/-- 'laws.FnExactRestOf', WHERE WHAT IT READS IS OF BULK AT MOST 1048576: true; the input reads as it did. -/
def fnExactRestOfUptoRow : OpenClaim := { program := "ytmolcfagmiecjaa", sum := "98b859e0e3d9183f5a2c5291e6f06abef6e7fe4e3d63ed6f2a0aadf479ba103f", func := "loop.example/g00953/laws.FnExactRestOf", spec := "fnExactRestOf", apart := false, narrowed := true }
def FnExactRestOfUptoSaid : Prop := fnExactRestOfUptoRow.holds Try.pinned (OpenSpec.upto fnExactRestOfSpec)

/-- 'laws.FnExactLatestStart', WHERE WHAT IT READS IS OF BULK AT MOST 1048576: true; the input reads as it did. -/
def fnExactLatestStartUptoRow : OpenClaim := { program := "ytmolcfagmiecjaa", sum := "98b859e0e3d9183f5a2c5291e6f06abef6e7fe4e3d63ed6f2a0aadf479ba103f", func := "loop.example/g00953/laws.FnExactLatestStart", spec := "fnExactLatestStart", apart := false, narrowed := true }
def FnExactLatestStartUptoSaid : Prop := fnExactLatestStartUptoRow.holds Try.pinned (OpenSpec.upto fnExactLatestStartSpec)

/-- 'laws.FnExactVoyageEnd', WHERE WHAT IT READS IS OF BULK AT MOST 1048576: true; the input reads as it did. -/
def fnExactVoyageEndUptoRow : OpenClaim := { program := "ytmolcfagmiecjaa", sum := "98b859e0e3d9183f5a2c5291e6f06abef6e7fe4e3d63ed6f2a0aadf479ba103f", func := "loop.example/g00953/laws.FnExactVoyageEnd", spec := "fnExactVoyageEnd", apart := false, narrowed := true }
def FnExactVoyageEndUptoSaid : Prop := fnExactVoyageEndUptoRow.holds Try.pinned (OpenSpec.upto fnExactVoyageEndSpec)

/-- 'laws.FnExactGreedyVoyage', WHERE WHAT IT READS IS OF BULK AT MOST 1048576: true; the input reads as it did. -/
def fnExactGreedyVoyageUptoRow : OpenClaim := { program := "ytmolcfagmiecjaa", sum := "98b859e0e3d9183f5a2c5291e6f06abef6e7fe4e3d63ed6f2a0aadf479ba103f", func := "loop.example/g00953/laws.FnExactGreedyVoyage", spec := "fnExactGreedyVoyage", apart := false, narrowed := true }
def FnExactGreedyVoyageUptoSaid : Prop := fnExactGreedyVoyageUptoRow.holds Try.pinned (OpenSpec.upto fnExactGreedyVoyageSpec)

/-- 'laws.FnExactCountVoyages', WHERE WHAT IT READS IS OF BULK AT MOST 1048576: true; the input reads as it did. -/
def fnExactCountVoyagesUptoRow : OpenClaim := { program := "ytmolcfagmiecjaa", sum := "98b859e0e3d9183f5a2c5291e6f06abef6e7fe4e3d63ed6f2a0aadf479ba103f", func := "loop.example/g00953/laws.FnExactCountVoyages", spec := "fnExactCountVoyages", unfollowed := true, recurses := true, apart := false, narrowed := true }
def FnExactCountVoyagesUptoSaid : Prop := fnExactCountVoyagesUptoRow.holds Try.pinned (OpenSpec.upto fnExactCountVoyagesSpec)

/-- 'laws.FnExactVoyageOf', WHERE WHAT IT READS IS OF BULK AT MOST 1048576: true; the input reads as it did. -/
def fnExactVoyageOfUptoRow : OpenClaim := { program := "ytmolcfagmiecjaa", sum := "98b859e0e3d9183f5a2c5291e6f06abef6e7fe4e3d63ed6f2a0aadf479ba103f", func := "loop.example/g00953/laws.FnExactVoyageOf", spec := "fnExactVoyageOf", apart := false, narrowed := true }
def FnExactVoyageOfUptoSaid : Prop := fnExactVoyageOfUptoRow.holds Try.pinned (OpenSpec.upto fnExactVoyageOfSpec)

/-- 'laws.FnExactMostWorks', WHERE WHAT IT READS IS OF BULK AT MOST 1048576: true; the input reads as it did. -/
def fnExactMostWorksUptoRow : OpenClaim := { program := "ytmolcfagmiecjaa", sum := "98b859e0e3d9183f5a2c5291e6f06abef6e7fe4e3d63ed6f2a0aadf479ba103f", func := "loop.example/g00953/laws.FnExactMostWorks", spec := "fnExactMostWorks", unfollowed := true, recurses := true, apart := false, narrowed := true }
def FnExactMostWorksUptoSaid : Prop := fnExactMostWorksUptoRow.holds Try.pinned (OpenSpec.upto fnExactMostWorksSpec)

/-- 'laws.FnExactFirstVoyage', WHERE WHAT IT READS IS OF BULK AT MOST 1048576: true; the input reads as it did. -/
def fnExactFirstVoyageUptoRow : OpenClaim := { program := "ytmolcfagmiecjaa", sum := "98b859e0e3d9183f5a2c5291e6f06abef6e7fe4e3d63ed6f2a0aadf479ba103f", func := "loop.example/g00953/laws.FnExactFirstVoyage", spec := "fnExactFirstVoyage", unfollowed := true, recurses := true, apart := false, narrowed := true }
def FnExactFirstVoyageUptoSaid : Prop := fnExactFirstVoyageUptoRow.holds Try.pinned (OpenSpec.upto fnExactFirstVoyageSpec)

end Rows
end Go.Proofs.Ytmolcfagmiecjaa
