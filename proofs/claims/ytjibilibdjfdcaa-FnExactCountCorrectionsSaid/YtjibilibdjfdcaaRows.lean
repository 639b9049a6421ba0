/-
  No cell of these rows narrows 'for every input' (looked for: loops, veiled, ifaces, maps, wideKeys, modest, calm, conditions, laid).
  DERIVED. THE GIVEN ROWS OF THIS SEAT. 2 by the template 'for every input the law returns true; each argument reads behind the call as it read before'; 0 by the template 'total and deterministic' (their statements: YtjibilibdjfdcaaTotals.lean).
  GIVEN WITH THE SEED: the statements are not yours to turn. If you find one false, say at which input.
  Laid BY PROGRAM, IN A SANDBOX (cutbox-rows.mjs): the forced cells as the released guide's own fill.sh prints them over the translation 032ebbb482325989… (all of the seat's roots in one cut). By AI agents, Wed Nov 11 2026. No macro, syntax, notation, axiom, sorry.
-/
import Derived.Test.YtjibilibdjfdcaaChecked
import GoSem.Claim
import GoSem.ClaimJoined
import GoSem.ClaimMapViews
import Derived.JoinedTies
import Derived.KernelRfl
namespace Go.Proofs.Ytjibilibdjfdcaa
/- THE CELL 'sum', in the pinned program and in every row, IS THE sha256 OF THE DUMP (.gsa) THAT YtjibilibdjfdcaaProg.lean LOADS. Nothing in Lean hashes anything: it is a label: what it is worth is what the hold of that sum in a sandbox is worth. -/
noncomputable def Try.pinned : Pinned := { name := "ytjibilibdjfdcaa", sum := "032ebbb482325989552e64bae913e3db5e8d61e85e1d5363f6fbe10b06b55c14", checked := Try.checked }
namespace Rows
def none {H : Type} : Left H := { results := [], args := [] }

/-- 'laws.FnExactSameEdition': WHATEVER THE INPUT: true; the input reads as it did. -/
def fnExactSameEditionSpec : ChangeSpec := { name := "fnExactSameEdition", fn := fun _ => fun
  | [d1, d2] => { results := [.lit (.bool true)], args := [d1, d2] }
  | _ => none }
def fnExactSameEditionRow : OpenClaim := { program := "ytjibilibdjfdcaa", sum := "032ebbb482325989552e64bae913e3db5e8d61e85e1d5363f6fbe10b06b55c14", func := "loop.example/g00953/laws.FnExactSameEdition", spec := "fnExactSameEdition", unfollowed := true, recurses := true, apart := false }
def FnExactSameEditionSaid : Prop := fnExactSameEditionRow.holds Try.pinned (OpenSpec.ofChange fnExactSameEditionSpec)

/-- ITS FALSE NEIGHBOUR: 'it returns false'. Refute it at one input. -/
def fnExactSameEditionWrong : ChangeSpec := { name := "fnExactSameEdition", fn := fun _ => fun
  | [d1, d2] => { results := [.lit (.bool false)], args := [d1, d2] }
  | _ => none }
def FnExactSameEditionWrongFalsely : Prop := fnExactSameEditionRow.holds Try.pinned (OpenSpec.ofChange fnExactSameEditionWrong)

/-- 'laws.FnExactCountCorrections': WHATEVER THE INPUT: true; the input reads as it did. -/
def fnExactCountCorrectionsSpec : ChangeSpec := { name := "fnExactCountCorrections", fn := fun _ => fun
  | [d] => { results := [.lit (.bool true)], args := [d] }
  | _ => none }
def fnExactCountCorrectionsRow : OpenClaim := { program := "ytjibilibdjfdcaa", sum := "032ebbb482325989552e64bae913e3db5e8d61e85e1d5363f6fbe10b06b55c14", func := "loop.example/g00953/laws.FnExactCountCorrections", spec := "fnExactCountCorrections", apart := false }
def FnExactCountCorrectionsSaid : Prop := fnExactCountCorrectionsRow.holds Try.pinned (OpenSpec.ofChange fnExactCountCorrectionsSpec)

/-- ITS FALSE NEIGHBOUR: 'it returns false'. Refute it at one input. -/
def fnExactCountCorrectionsWrong : ChangeSpec := { name := "fnExactCountCorrections", fn := fun _ => fun
  | [d] => { results := [.lit (.bool false)], args := [d] }
  | _ => none }
def FnExactCountCorrectionsWrongFalsely : Prop := fnExactCountCorrectionsRow.holds Try.pinned (OpenSpec.ofChange fnExactCountCorrectionsWrong)

/- THE SECOND FORM. 'bulk': how many values and letters a reading holds, each counted each time it is reached (what is shared counts as often as it is met; a slice's spare places count too). A statement '..UptoSaid' is the law's where the arguments, and the package variables that the reading takes, are together of bulk at most 1048576: NARROWER than '..Said'. Prove '..Said' where nothing that the law and all that it calls make is longer than what came in: it says more and counts as full. Else prove '..UptoSaid'. A law counts once. -/
mutual
def uptoBulk {H : Type} : DataW H → Nat
  | .lit (.string bytes) => bytes.length + 1
  | .lit _ => 1
  | .nil => 1
  | .ptr d => uptoBulk d + 1
  | .slice elems spare => uptoBulkAll elems + uptoBulkAll spare + 1
  | .agg parts => uptoBulkAll parts + 1
  | .iface _ d => uptoBulk d + 1
  | .map entries => uptoBulkEntries entries + 1
  | .held _ => 1
def uptoBulkAll {H : Type} : List (DataW H) → Nat
  | [] => 0
  | d :: r => uptoBulk d + uptoBulkAll r
def uptoBulkEntries {H : Type} : List (Lit × DataW H) → Nat
  | [] => 0
  | x :: r => uptoBulkEntry x + uptoBulkEntries r
def uptoBulkEntry {H : Type} : Lit × DataW H → Nat
  | (.string bytes, d) => bytes.length + uptoBulk d + 1
  | (_, d) => uptoBulk d + 1
 end
def uptoSmall : (H : Type) → List (DataW H) → Bool := fun _ ds => decide (uptoBulkAll ds ≤ 1048576)
def OpenSpec.upto (s : _root_.Go.ChangeSpec) : _root_.Go.OpenSpec := { _root_.Go.OpenSpec.ofChange s with cond := some uptoSmall }

/-- 'laws.FnExactSameEdition', WHERE WHAT IT READS IS OF BULK AT MOST 1048576: true; the input reads as it did. -/
def fnExactSameEditionUptoRow : OpenClaim := { program := "ytjibilibdjfdcaa", sum := "032ebbb482325989552e64bae913e3db5e8d61e85e1d5363f6fbe10b06b55c14", func := "loop.example/g00953/laws.FnExactSameEdition", spec := "fnExactSameEdition", unfollowed := true, recurses := true, apart := false, narrowed := true }
def FnExactSameEditionUptoSaid : Prop := fnExactSameEditionUptoRow.holds Try.pinned (OpenSpec.upto fnExactSameEditionSpec)

/-- 'laws.FnExactCountCorrections', WHERE WHAT IT READS IS OF BULK AT MOST 1048576: true; the input reads as it did. -/
def fnExactCountCorrectionsUptoRow : OpenClaim := { program := "ytjibilibdjfdcaa", sum := "032ebbb482325989552e64bae913e3db5e8d61e85e1d5363f6fbe10b06b55c14", func := "loop.example/g00953/laws.FnExactCountCorrections", spec := "fnExactCountCorrections", apart := false, narrowed := true }
def FnExactCountCorrectionsUptoSaid : Prop := fnExactCountCorrectionsUptoRow.holds Try.pinned (OpenSpec.upto fnExactCountCorrectionsSpec)

end Rows
end Go.Proofs.Ytjibilibdjfdcaa
