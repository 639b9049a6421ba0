/- Slices of numbers: copy, size, equality. -/
import Derived.Test.YtabbhlehbhadiaaDoorSl
import Derived.StillTailTactics
namespace Go.Proofs.YtabbhlehbhadiaaDoor
open Go.RowKit
set_option maxRecDepth 100000

theorem rds_Int64 {w : World} {cs : List Value} (h : Rds Tryd.prog w 2 cs) : ∃ x : Int, cs = encI x ∧ I64 x := by
  obtain ⟨x, e, hx⟩ := Rds.int Tryd.underlying2 h
  exact ⟨x, e, i64_of hx⟩
theorem open_Int64 {H : Type} {enc : TypeId × Value → H} {W : World} {base : Nat} {v : Value} {d : DataW H} {p : List MemPlace} (hv : Value.okWide Tryd.prog W .any base 2 v) (h : DataW.Trod enc Tryd.prog W 0 (fun _ => true) true 2 v d p) :
    ∃ x : Int, v = .int .i64 x ∧ I64 x := by
  obtain ⟨x, rfl, -, -, hx⟩ := ChangeShapes.open_int Tryd.underlying2 hv h
  exact ⟨x, rfl, i64_of hx⟩
theorem open_String {H : Type} {enc : TypeId × Value → H} {W : World} {base : Nat} {v : Value} {d : DataW H} {p : List MemPlace} (hv : Value.okWide Tryd.prog W .any base 9 v) (h : DataW.Trod enc Tryd.prog W 0 (fun _ => true) true 9 v d p) :
    ∃ s : ByteArray, v = .string s ∧ s.size ≤ maxLen := by
  obtain ⟨s, rfl, -, -, hs⟩ := ChangeMaps.open_string Tryd.underlying9 hv h
  exact ⟨s, rfl, hs⟩
theorem open_Int64S {H : Type} {enc : TypeId × Value → H} {W : World} {base : Nat} {v : Value} {d : DataW H} {p : List MemPlace} (hv : Value.okWide Tryd.prog W .any base 52 v) (h : DataW.Trod enc Tryd.prog W 0 (fun _ => true) true 52 v d p) :
    ∃ xs : List Int, SlA W 0 1 encI v xs ∧ ∀ x ∈ xs, I64 x := by
  obtain ⟨a, len, cap, rfl⟩ := WideShapes.okWide_slice Tryd.underlying52 hv
  exact SlA.of_rds Tryd.underlying52 cells_int64 (by omega) (fun es h => rds_Int64 h) (rds_arg h)
theorem info_Int64 : (Tryd.prog.info? 2).map (fun i => (i.zero, i.size, i.bytes)) = some (some (.int .i64 0), 1, 8) := by kernel_rfl
end Go.Proofs.YtabbhlehbhadiaaDoor
