/- Slices of numbers: copy, size, equality. -/
import Derived.Test.YtabbhlehbhadiaaGreatDoorSl
import Derived.StillTailTactics
namespace Go.Proofs.YtabbhlehbhadiaaGreatDoor
open Go.RowKit
set_option maxRecDepth 100000

theorem rds_Int64 {w : World} {cs : List Value} (h : Rds Tryz.prog w 2 cs) : ∃ x : Int, cs = encI x ∧ I64 x := by
  obtain ⟨x, e, hx⟩ := Rds.int Tryz.underlying2 h
  exact ⟨x, e, i64_of hx⟩
theorem open_Int64 {H : Type} {enc : TypeId × Value → H} {W : World} {base : Nat} {v : Value} {d : DataW H} {p : List MemPlace} (hv : Value.okWide Tryz.prog W .any base 2 v) (h : DataW.Trod enc Tryz.prog W 0 (fun _ => true) true 2 v d p) :
    ∃ x : Int, v = .int .i64 x ∧ I64 x := by
  obtain ⟨x, rfl, -, -, hx⟩ := ChangeShapes.open_int Tryz.underlying2 hv h
  exact ⟨x, rfl, i64_of hx⟩
theorem open_String {H : Type} {enc : TypeId × Value → H} {W : World} {base : Nat} {v : Value} {d : DataW H} {p : List MemPlace} (hv : Value.okWide Tryz.prog W .any base 9 v) (h : DataW.Trod enc Tryz.prog W 0 (fun _ => true) true 9 v d p) :
    ∃ s : ByteArray, v = .string s ∧ s.size ≤ maxLen := by
  obtain ⟨s, rfl, -, -, hs⟩ := ChangeMaps.open_string Tryz.underlying9 hv h
  exact ⟨s, rfl, hs⟩
theorem open_Int64S {H : Type} {enc : TypeId × Value → H} {W : World} {base : Nat} {v : Value} {d : DataW H} {p : List MemPlace} (hv : Value.okWide Tryz.prog W .any base 24 v) (h : DataW.Trod enc Tryz.prog W 0 (fun _ => true) true 24 v d p) :
    ∃ xs : List Int, SlA W 0 1 encI v xs ∧ ∀ x ∈ xs, I64 x := by
  obtain ⟨a, len, cap, rfl⟩ := WideShapes.okWide_slice Tryz.underlying24 hv
  exact SlA.of_rds Tryz.underlying24 cells_int64 (by omega) (fun es h => rds_Int64 h) (rds_arg h)
theorem info_Int64 : (Tryz.prog.info? 2).map (fun i => (i.zero, i.size, i.bytes)) = some (some (.int .i64 0), 1, 8) := by kernel_rfl
end Go.Proofs.YtabbhlehbhadiaaGreatDoor
