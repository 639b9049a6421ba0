/- Contracts of the library at this translation: laid by the kit's tools; those that the claims use. -/
import Derived.Shelf.Strings.Search3
import Derived.Shelf.LaysM
import Derived.Test.YtfnfkpmkppkleaaDoorProg
namespace Go.Proofs
open Go.Shelf
def Tryd.lays144_ren : Go.Shelf.Ren := ⟨fun | 144 => 187 | 143 => 180 | 219 => 181 | 217 => 200 | 225 => 201 | 224 => 202 | 267 => 203 | 266 => 216 | 314 => 217 | n => n, fun | 9 => 9 | 4 => 4 | 3 => 3 | 5 => 5 | 46 => 210 | 146 => 230 | 51 => 221 | n => n, fun | 1 => 0 | n => n⟩
theorem Tryd.lays144 : Go.Proofs.Lays.n144 Tryd.prog Tryd.lays144_ren := {
  mixed := by kernel_rfl
  f143 := Tryd.func180.trans (congrArg some (by kernel_rfl))
  f144 := Tryd.func187.trans (congrArg some (by kernel_rfl))
  f217 := Tryd.func200.trans (congrArg some (by kernel_rfl))
  f219 := Tryd.func181.trans (congrArg some (by kernel_rfl))
  f224 := Tryd.func202.trans (congrArg some (by kernel_rfl))
  f225 := Tryd.func201.trans (congrArg some (by kernel_rfl))
  f266 := Tryd.func216.trans (congrArg some (by kernel_rfl))
  f267 := Tryd.func203.trans (congrArg some (by kernel_rfl))
  f314 := Tryd.func217.trans (congrArg some (by kernel_rfl))
  t3 := Tryd.underlying3
  a3 := Tryd.isAgg3
  z3 := Tryd.sizeOf3
  v3 := Tryd.zeroValue3
  t4 := Tryd.underlying4
  a4 := Tryd.isAgg4
  z4 := Tryd.sizeOf4
  v4 := Tryd.zeroValue4
  t5 := Tryd.underlying5
  a5 := Tryd.isAgg5
  z5 := Tryd.sizeOf5
  v5 := Tryd.zeroValue5
  t9 := Tryd.underlying9
  a9 := Tryd.isAgg9
  z9 := Tryd.sizeOf9
  v9 := Tryd.zeroValue9
  t46 := Tryd.underlying210
  a46 := Tryd.isAgg210
  z46 := Tryd.sizeOf210
  v46 := Tryd.zeroValue210
  t51 := Tryd.underlying221
  a51 := Tryd.isAgg221
  z51 := Tryd.sizeOf221
  v51 := Tryd.zeroValue221
  t146 := Tryd.underlying230
  a146 := Tryd.isAgg230
  z146 := Tryd.sizeOf230
  v146 := Tryd.zeroValue230
  g1 := by kernel_rfl }
open Go.RowKit Go.Lib in
theorem Tryd.strings_Contains_one (s : ByteArray) (c : UInt8) (w : World) :
    Calls Tryd.prog 187 #[.string s, .string ⟨#[c]⟩] w fun e w' => e = .returned (.bool (decide (0 ≤ Lib.indexByte s.data.toList c))) ∧ w' = w := Any.strings_Contains_one Tryd.lays144 s c w
end Go.Proofs
