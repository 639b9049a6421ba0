/- Slices of numbers: copy, size, equality. -/
import Derived.Test.YtljipgjgjobaaaaSl
import Derived.StillTailTactics
namespace Go.Proofs.Ytljipgjgjobaaaa
open Go.RowKit
set_option maxRecDepth 100000

theorem rds_Int64 {w : World} {cs : List Value} (h : Rds Try.prog w 2 cs) : ∃ x : Int, cs = encI x ∧ I64 x := by
  obtain ⟨x, e, hx⟩ := Rds.int Try.underlying2 h
  exact ⟨x, e, i64_of hx⟩
theorem open_Int64 {H : Type} {enc : TypeId × Value → H} {W : World} {base : Nat} {v : Value} {d : DataW H} {p : List MemPlace} (hv : Value.okWide Try.prog W .any base 2 v) (h : DataW.Trod enc Try.prog W 0 (fun _ => true) true 2 v d p) :
    ∃ x : Int, v = .int .i64 x ∧ I64 x := by
  obtain ⟨x, rfl, -, -, hx⟩ := ChangeShapes.open_int Try.underlying2 hv h
  exact ⟨x, rfl, i64_of hx⟩
theorem open_String {H : Type} {enc : TypeId × Value → H} {W : World} {base : Nat} {v : Value} {d : DataW H} {p : List MemPlace} (hv : Value.okWide Try.prog W .any base 9 v) (h : DataW.Trod enc Try.prog W 0 (fun _ => true) true 9 v d p) :
    ∃ s : ByteArray, v = .string s ∧ s.size ≤ maxLen := by
  obtain ⟨s, rfl, -, -, hs⟩ := ChangeMaps.open_string Try.underlying9 hv h
  exact ⟨s, rfl, hs⟩
end Go.Proofs.Ytljipgjgjobaaaa
