/- math/bits.Mul: the contract of the shelf, laid at this program by the kit's lay-shelf and lay-plain. -/
import Derived.Shelf.Bits.Mul64
import Derived.Test.YtkgifbiaaaemnaaRows
import Derived.Test.YtkgifbiaaaemnaaMem
namespace Go.Proofs
open Go.Shelf
def Try.lays212_ren : Go.Shelf.Ren := ⟨fun | 212 => 131 | 263 => 170 | 264 => 171 | n => n, fun | 46 => 146 | 51 => 187 | 146 => 188 | 53 => 190 | 148 => 191 | n => n, fun | n => n⟩
theorem Try.lays212 : Go.Proofs.Lays.n212 Try.prog Try.lays212_ren := {
  mixed := by kernel_rfl
  f212 := Try.func131.trans (congrArg some (by kernel_rfl))
  f263 := Try.func170.trans (congrArg some (by kernel_rfl))
  f264 := Try.func171.trans (congrArg some (by kernel_rfl))
  t46 := Try.underlying146
  a46 := Try.isAgg146
  z46 := Try.sizeOf146
  v46 := Try.zeroValue146
  t51 := Try.underlying187
  a51 := Try.isAgg187
  z51 := Try.sizeOf187
  v51 := Try.zeroValue187
  t53 := Try.underlying190
  a53 := Try.isAgg190
  z53 := Try.sizeOf190
  v53 := Try.zeroValue190
  t146 := Try.underlying188
  a146 := Try.isAgg188
  z146 := Try.sizeOf188
  v146 := Try.zeroValue188
  t148 := Try.underlying191
  a148 := Try.isAgg191
  z148 := Try.sizeOf191
  v148 := Try.zeroValue191 }
open Go.RowKit Go.Lib in
theorem Try.bits_Mul (x y : Nat) (hx : x < 18446744073709551616) (hy : y < 18446744073709551616) (w : World) :
    Calls Try.prog 131 #[.int .u64 x, .int .u64 y] w fun e w' => e = .returned (.tuple #[.int .u64 ((x * y / 18446744073709551616 : Nat) : Int), .int .u64 ((x * y % 18446744073709551616 : Nat) : Int)]) ∧ w' = w := Any.bits_Mul Try.lays212 x y hx hy w
end Go.Proofs
