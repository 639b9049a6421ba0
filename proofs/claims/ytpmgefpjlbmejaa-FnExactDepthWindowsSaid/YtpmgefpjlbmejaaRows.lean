/-
  No cell of these rows narrows 'for every input' (looked for: loops, veiled, ifaces, maps, wideKeys, modest, calm, conditions, laid).
  DERIVED. THE GIVEN ROWS OF THIS SEAT. 8 by the template 'for every input the law returns true; each argument reads behind the call as it read before'; 0 by the template 'total and deterministic' (their statements: YtpmgefpjlbmejaaTotals.lean).
  GIVEN WITH THE SEED: the statements are not yours to turn. If you find one false, say at which input.
  Laid BY PROGRAM, IN A SANDBOX (cutbox-rows.mjs): the forced cells as the released guide's own fill.sh prints them over the translation 1f47cf4894f4b8a2… (all of the seat's roots in one cut). By AI agents, Wed Nov 11 2026. No macro, syntax, notation, axiom, sorry.
-/
import Derived.Test.YtpmgefpjlbmejaaChecked
import GoSem.Claim
import GoSem.ClaimJoined
import GoSem.ClaimMapViews
import Derived.JoinedTies
import Derived.KernelRfl
namespace Go.Proofs.Ytpmgefpjlbmejaa
/- THE CELL 'sum', in the pinned program and in every row, IS THE sha256 OF THE DUMP (.gsa) THAT YtpmgefpjlbmejaaProg.lean LOADS. Nothing in Lean hashes anything: it is a label: what it is worth is what the hold of that sum in a sandbox is worth. -/
noncomputable def Try.pinned : Pinned := { name := "ytpmgefpjlbmejaa", sum := "1f47cf4894f4b8a273d7860adfbbaefdad3e573565946c7218e049247f8d3cd0", checked := Try.checked }
namespace Rows
def none {H : Type} : Left H := { results := [], args := [] }

/-- 'laws.FnExactHighWaters': WHATEVER THE INPUT: true; the input reads as it did. -/
def fnExactHighWatersSpec : ChangeSpec := { name := "fnExactHighWaters", fn := fun _ => fun
  | [d] => { results := [.lit (.bool true)], args := [d] }
  | _ => none }
def fnExactHighWatersRow : OpenClaim := { program := "ytpmgefpjlbmejaa", sum := "1f47cf4894f4b8a273d7860adfbbaefdad3e573565946c7218e049247f8d3cd0", func := "loop.example/g00953/laws.FnExactHighWaters", spec := "fnExactHighWaters", apart := false }
def FnExactHighWatersSaid : Prop := fnExactHighWatersRow.holds Try.pinned (OpenSpec.ofChange fnExactHighWatersSpec)

/-- ITS FALSE NEIGHBOUR: 'it returns false'. Refute it at one input. -/
def fnExactHighWatersWrong : ChangeSpec := { name := "fnExactHighWaters", fn := fun _ => fun
  | [d] => { results := [.lit (.bool false)], args := [d] }
  | _ => none }
def FnExactHighWatersWrongFalsely : Prop := fnExactHighWatersRow.holds Try.pinned (OpenSpec.ofChange fnExactHighWatersWrong)

/-- 'laws.FnExactShiftTide': WHATEVER THE INPUT: true; the input reads as it did. -/
def fnExactShiftTideSpec : ChangeSpec := { name := "fnExactShiftTide", fn := fun _ => fun
  | [d1, d2] => { results := [.lit (.bool true)], args := [d1, d2] }
  | _ => none }
def fnExactShiftTideRow : OpenClaim := { program := "ytpmgefpjlbmejaa", sum := "1f47cf4894f4b8a273d7860adfbbaefdad3e573565946c7218e049247f8d3cd0", func := "loop.example/g00953/laws.FnExactShiftTide", spec := "fnExactShiftTide", apart := false }
def FnExactShiftTideSaid : Prop := fnExactShiftTideRow.holds Try.pinned (OpenSpec.ofChange fnExactShiftTideSpec)

/-- ITS FALSE NEIGHBOUR: 'it returns false'. Refute it at one input. -/
def fnExactShiftTideWrong : ChangeSpec := { name := "fnExactShiftTide", fn := fun _ => fun
  | [d1, d2] => { results := [.lit (.bool false)], args := [d1, d2] }
  | _ => none }
def FnExactShiftTideWrongFalsely : Prop := fnExactShiftTideRow.holds Try.pinned (OpenSpec.ofChange fnExactShiftTideWrong)

/-- 'laws.FnExactTideAt': WHATEVER THE INPUT: true; the input reads as it did. -/
def fnExactTideAtSpec : ChangeSpec := { name := "fnExactTideAt", fn := fun _ => fun
  | [d1, d2] => { results := [.lit (.bool true)], args := [d1, d2] }
  | _ => none }
def fnExactTideAtRow : OpenClaim := { program := "ytpmgefpjlbmejaa", sum := "1f47cf4894f4b8a273d7860adfbbaefdad3e573565946c7218e049247f8d3cd0", func := "loop.example/g00953/laws.FnExactTideAt", spec := "fnExactTideAt", recurses := true, apart := false }
def FnExactTideAtSaid : Prop := fnExactTideAtRow.holds Try.pinned (OpenSpec.ofChange fnExactTideAtSpec)

/-- ITS FALSE NEIGHBOUR: 'it returns false'. Refute it at one input. -/
def fnExactTideAtWrong : ChangeSpec := { name := "fnExactTideAt", fn := fun _ => fun
  | [d1, d2] => { results := [.lit (.bool false)], args := [d1, d2] }
  | _ => none }
def FnExactTideAtWrongFalsely : Prop := fnExactTideAtRow.holds Try.pinned (OpenSpec.ofChange fnExactTideAtWrong)

/-- 'laws.FnExactDepthAt': WHATEVER THE INPUT: true; the input reads as it did. -/
def fnExactDepthAtSpec : ChangeSpec := { name := "fnExactDepthAt", fn := fun _ => fun
  | [d1, d2, d3] => { results := [.lit (.bool true)], args := [d1, d2, d3] }
  | _ => none }
def fnExactDepthAtRow : OpenClaim := { program := "ytpmgefpjlbmejaa", sum := "1f47cf4894f4b8a273d7860adfbbaefdad3e573565946c7218e049247f8d3cd0", func := "loop.example/g00953/laws.FnExactDepthAt", spec := "fnExactDepthAt", recurses := true, apart := false }
def FnExactDepthAtSaid : Prop := fnExactDepthAtRow.holds Try.pinned (OpenSpec.ofChange fnExactDepthAtSpec)

/-- ITS FALSE NEIGHBOUR: 'it returns false'. Refute it at one input. -/
def fnExactDepthAtWrong : ChangeSpec := { name := "fnExactDepthAt", fn := fun _ => fun
  | [d1, d2, d3] => { results := [.lit (.bool false)], args := [d1, d2, d3] }
  | _ => none }
def FnExactDepthAtWrongFalsely : Prop := fnExactDepthAtRow.holds Try.pinned (OpenSpec.ofChange fnExactDepthAtWrong)

/-- 'laws.FnExactNextDeep': WHATEVER THE INPUT: true; the input reads as it did. -/
def fnExactNextDeepSpec : ChangeSpec := { name := "fnExactNextDeep", fn := fun _ => fun
  | [d1, d2, d3, d4] => { results := [.lit (.bool true)], args := [d1, d2, d3, d4] }
  | _ => none }
def fnExactNextDeepRow : OpenClaim := { program := "ytpmgefpjlbmejaa", sum := "1f47cf4894f4b8a273d7860adfbbaefdad3e573565946c7218e049247f8d3cd0", func := "loop.example/g00953/laws.FnExactNextDeep", spec := "fnExactNextDeep", recurses := true, apart := false }
def FnExactNextDeepSaid : Prop := fnExactNextDeepRow.holds Try.pinned (OpenSpec.ofChange fnExactNextDeepSpec)

/-- ITS FALSE NEIGHBOUR: 'it returns false'. Refute it at one input. -/
def fnExactNextDeepWrong : ChangeSpec := { name := "fnExactNextDeep", fn := fun _ => fun
  | [d1, d2, d3, d4] => { results := [.lit (.bool false)], args := [d1, d2, d3, d4] }
  | _ => none }
def FnExactNextDeepWrongFalsely : Prop := fnExactNextDeepRow.holds Try.pinned (OpenSpec.ofChange fnExactNextDeepWrong)

/-- 'laws.FnExactLowestWater': WHATEVER THE INPUT: true; the input reads as it did. -/
def fnExactLowestWaterSpec : ChangeSpec := { name := "fnExactLowestWater", fn := fun _ => fun
  | [d1, d2, d3] => { results := [.lit (.bool true)], args := [d1, d2, d3] }
  | _ => none }
def fnExactLowestWaterRow : OpenClaim := { program := "ytpmgefpjlbmejaa", sum := "1f47cf4894f4b8a273d7860adfbbaefdad3e573565946c7218e049247f8d3cd0", func := "loop.example/g00953/laws.FnExactLowestWater", spec := "fnExactLowestWater", recurses := true, apart := false }
def FnExactLowestWaterSaid : Prop := fnExactLowestWaterRow.holds Try.pinned (OpenSpec.ofChange fnExactLowestWaterSpec)

/-- ITS FALSE NEIGHBOUR: 'it returns false'. Refute it at one input. -/
def fnExactLowestWaterWrong : ChangeSpec := { name := "fnExactLowestWater", fn := fun _ => fun
  | [d1, d2, d3] => { results := [.lit (.bool false)], args := [d1, d2, d3] }
  | _ => none }
def FnExactLowestWaterWrongFalsely : Prop := fnExactLowestWaterRow.holds Try.pinned (OpenSpec.ofChange fnExactLowestWaterWrong)

/-- 'laws.FnWindows': WHATEVER THE INPUT: true; the input reads as it did. -/
def fnWindowsSpec : ChangeSpec := { name := "fnWindows", fn := fun _ => fun
  | [d1, d2] => { results := [.lit (.bool true)], args := [d1, d2] }
  | _ => none }
def fnWindowsRow : OpenClaim := { program := "ytpmgefpjlbmejaa", sum := "1f47cf4894f4b8a273d7860adfbbaefdad3e573565946c7218e049247f8d3cd0", func := "loop.example/g00953/laws.FnWindows", spec := "fnWindows", recurses := true, apart := false }
def FnWindowsSaid : Prop := fnWindowsRow.holds Try.pinned (OpenSpec.ofChange fnWindowsSpec)

/-- ITS FALSE NEIGHBOUR: 'it returns false'. Refute it at one input. -/
def fnWindowsWrong : ChangeSpec := { name := "fnWindows", fn := fun _ => fun
  | [d1, d2] => { results := [.lit (.bool false)], args := [d1, d2] }
  | _ => none }
def FnWindowsWrongFalsely : Prop := fnWindowsRow.holds Try.pinned (OpenSpec.ofChange fnWindowsWrong)

/-- 'laws.FnExactDepthWindows': WHATEVER THE INPUT: true; the input reads as it did. -/
def fnExactDepthWindowsSpec : ChangeSpec := { name := "fnExactDepthWindows", fn := fun _ => fun
  | [d1, d2, d3, d4, d5] => { results := [.lit (.bool true)], args := [d1, d2, d3, d4, d5] }
  | _ => none }
def fnExactDepthWindowsRow : OpenClaim := { program := "ytpmgefpjlbmejaa", sum := "1f47cf4894f4b8a273d7860adfbbaefdad3e573565946c7218e049247f8d3cd0", func := "loop.example/g00953/laws.FnExactDepthWindows", spec := "fnExactDepthWindows", recurses := true, apart := false }
def FnExactDepthWindowsSaid : Prop := fnExactDepthWindowsRow.holds Try.pinned (OpenSpec.ofChange fnExactDepthWindowsSpec)

/-- ITS FALSE NEIGHBOUR: 'it returns false'. Refute it at one input. -/
def fnExactDepthWindowsWrong : ChangeSpec := { name := "fnExactDepthWindows", fn := fun _ => fun
  | [d1, d2, d3, d4, d5] => { results := [.lit (.bool false)], args := [d1, d2, d3, d4, d5] }
  | _ => none }
def FnExactDepthWindowsWrongFalsely : Prop := fnExactDepthWindowsRow.holds Try.pinned (OpenSpec.ofChange fnExactDepthWindowsWrong)

/- THE SECOND FORM. 'bulk': how many values and letters a reading holds, each counted each time it is reached (what is shared counts as often as it is met; a slice's spare places count too). A statement '..UptoSaid' is the law's where the arguments, and the package variables that the reading takes, are together of bulk at most 1048576: NARROWER than '..Said'. Prove '..Said' where nothing that the law and all that it calls make is longer than what came in: it says more and counts as full. Else prove '..UptoSaid'. A law counts once. -/
mutual
def uptoBulk {H : Type} : DataW H → Nat
  | .lit (.string bytes) => bytes.length + 1
  | .lit _ => 1
  | .nil => 1
  | .ptr d => uptoBulk d + 1
  | .slice elems spare => uptoBulkAll elems + uptoBulkAll spare + 1
  | .agg parts => uptoBulkAll parts + 1
  | .iface _ d => uptoBulk d + 1
  | .map entries => uptoBulkEntries entries + 1
  | .held _ => 1
def uptoBulkAll {H : Type} : List (DataW H) → Nat
  | [] => 0
  | d :: r => uptoBulk d + uptoBulkAll r
def uptoBulkEntries {H : Type} : List (Lit × DataW H) → Nat
  | [] => 0
  | x :: r => uptoBulkEntry x + uptoBulkEntries r
def uptoBulkEntry {H : Type} : Lit × DataW H → Nat
  | (.string bytes, d) => bytes.length + uptoBulk d + 1
  | (_, d) => uptoBulk d + 1
 end
def uptoSmall : (H : Type) → List (DataW H) → Bool := fun _ ds => decide (uptoBulkAll ds ≤ 1048576)
def OpenSpec.upto (s : _root_.Go.ChangeSpec) : _root_.Go.OpenSpec := { _root_.Go.OpenSpec.ofChange s with cond := some uptoSmall }

/-- 'laws.FnExactHighWaters', WHERE WHAT IT READS IS OF BULK AT MOST 1048576: true; the input reads as it did. -/
def fnExactHighWatersUptoRow : OpenClaim := { program := "ytpmgefpjlbmejaa", sum := "1f47cf4894f4b8a273d7860adfbbaefdad3e573565946c7218e049247f8d3cd0", func := "loop.example/g00953/laws.FnExactHighWaters", spec := "fnExactHighWaters", apart := false, narrowed := true }
def FnExactHighWatersUptoSaid : Prop := fnExactHighWatersUptoRow.holds Try.pinned (OpenSpec.upto fnExactHighWatersSpec)

/-- 'laws.FnExactShiftTide', WHERE WHAT IT READS IS OF BULK AT MOST 1048576: true; the input reads as it did. -/
def fnExactShiftTideUptoRow : OpenClaim := { program := "ytpmgefpjlbmejaa", sum := "1f47cf4894f4b8a273d7860adfbbaefdad3e573565946c7218e049247f8d3cd0", func := "loop.example/g00953/laws.FnExactShiftTide", spec := "fnExactShiftTide", apart := false, narrowed := true }
def FnExactShiftTideUptoSaid : Prop := fnExactShiftTideUptoRow.holds Try.pinned (OpenSpec.upto fnExactShiftTideSpec)

/-- 'laws.FnExactTideAt', WHERE WHAT IT READS IS OF BULK AT MOST 1048576: true; the input reads as it did. -/
def fnExactTideAtUptoRow : OpenClaim := { program := "ytpmgefpjlbmejaa", sum := "1f47cf4894f4b8a273d7860adfbbaefdad3e573565946c7218e049247f8d3cd0", func := "loop.example/g00953/laws.FnExactTideAt", spec := "fnExactTideAt", recurses := true, apart := false, narrowed := true }
def FnExactTideAtUptoSaid : Prop := fnExactTideAtUptoRow.holds Try.pinned (OpenSpec.upto fnExactTideAtSpec)

/-- 'laws.FnExactDepthAt', WHERE WHAT IT READS IS OF BULK AT MOST 1048576: true; the input reads as it did. -/
def fnExactDepthAtUptoRow : OpenClaim := { program := "ytpmgefpjlbmejaa", sum := "1f47cf4894f4b8a273d7860adfbbaefdad3e573565946c7218e049247f8d3cd0", func := "loop.example/g00953/laws.FnExactDepthAt", spec := "fnExactDepthAt", recurses := true, apart := false, narrowed := true }
def FnExactDepthAtUptoSaid : Prop := fnExactDepthAtUptoRow.holds Try.pinned (OpenSpec.upto fnExactDepthAtSpec)

/-- 'laws.FnExactNextDeep', WHERE WHAT IT READS IS OF BULK AT MOST 1048576: true; the input reads as it did. -/
def fnExactNextDeepUptoRow : OpenClaim := { program := "ytpmgefpjlbmejaa", sum := "1f47cf4894f4b8a273d7860adfbbaefdad3e573565946c7218e049247f8d3cd0", func := "loop.example/g00953/laws.FnExactNextDeep", spec := "fnExactNextDeep", recurses := true, apart := false, narrowed := true }
def FnExactNextDeepUptoSaid : Prop := fnExactNextDeepUptoRow.holds Try.pinned (OpenSpec.upto fnExactNextDeepSpec)

/-- 'laws.FnExactLowestWater', WHERE WHAT IT READS IS OF BULK AT MOST 1048576: true; the input reads as it did. -/
def fnExactLowestWaterUptoRow : OpenClaim := { program := "ytpmgefpjlbmejaa", sum := "1f47cf4894f4b8a273d7860adfbbaefdad3e573565946c7218e049247f8d3cd0", func := "loop.example/g00953/laws.FnExactLowestWater", spec := "fnExactLowestWater", recurses := true, apart := false, narrowed := true }
def FnExactLowestWaterUptoSaid : Prop := fnExactLowestWaterUptoRow.holds Try.pinned (OpenSpec.upto fnExactLowestWaterSpec)

/-- 'laws.FnWindows', WHERE WHAT IT READS IS OF BULK AT MOST 1048576: true; the input reads as it did. -/
def fnWindowsUptoRow : OpenClaim := { program := "ytpmgefpjlbmejaa", sum := "1f47cf4894f4b8a273d7860adfbbaefdad3e573565946c7218e049247f8d3cd0", func := "loop.example/g00953/laws.FnWindows", spec := "fnWindows", recurses := true, apart := false, narrowed := true }
def FnWindowsUptoSaid : Prop := fnWindowsUptoRow.holds Try.pinned (OpenSpec.upto fnWindowsSpec)

/-- 'laws.FnExactDepthWindows', WHERE WHAT IT READS IS OF BULK AT MOST 1048576: true; the input reads as it did. -/
def fnExactDepthWindowsUptoRow : OpenClaim := { program := "ytpmgefpjlbmejaa", sum := "1f47cf4894f4b8a273d7860adfbbaefdad3e573565946c7218e049247f8d3cd0", func := "loop.example/g00953/laws.FnExactDepthWindows", spec := "fnExactDepthWindows", recurses := true, apart := false, narrowed := true }
def FnExactDepthWindowsUptoSaid : Prop := fnExactDepthWindowsUptoRow.holds Try.pinned (OpenSpec.upto fnExactDepthWindowsSpec)

end Rows
end Go.Proofs.Ytpmgefpjlbmejaa
