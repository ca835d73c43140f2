/- math/bits.Mul: the contract of the shelf, laid at this program by the kit's lay-shelf and lay-plain. -/
import Derived.Shelf.Bits.Mul64
import Derived.Test.YtlmhccnkganpcaaRows
import Derived.Test.YtlmhccnkganpcaaMem
namespace Go.Proofs
open Go.Shelf
def Try.lays212_ren : Go.Shelf.Ren := ⟨fun | 212 => 146 | 263 => 153 | 264 => 154 | n => n, fun | 46 => 136 | 51 => 96 | 146 => 157 | 53 => 148 | 148 => 159 | n => n, fun | n => n⟩
theorem Try.lays212 : Go.Proofs.Lays.n212 Try.prog Try.lays212_ren := {
  mixed := by kernel_rfl
  f212 := Try.func146.trans (congrArg some (by kernel_rfl))
  f263 := Try.func153.trans (congrArg some (by kernel_rfl))
  f264 := Try.func154.trans (congrArg some (by kernel_rfl))
  t46 := Try.underlying136
  a46 := Try.isAgg136
  z46 := Try.sizeOf136
  v46 := Try.zeroValue136
  t51 := Try.underlying96
  a51 := Try.isAgg96
  z51 := Try.sizeOf96
  v51 := Try.zeroValue96
  t53 := Try.underlying148
  a53 := Try.isAgg148
  z53 := Try.sizeOf148
  v53 := Try.zeroValue148
  t146 := Try.underlying157
  a146 := Try.isAgg157
  z146 := Try.sizeOf157
  v146 := Try.zeroValue157
  t148 := Try.underlying159
  a148 := Try.isAgg159
  z148 := Try.sizeOf159
  v148 := Try.zeroValue159 }
open Go.RowKit Go.Lib in
theorem Try.bits_Mul (x y : Nat) (hx : x < 18446744073709551616) (hy : y < 18446744073709551616) (w : World) :
    Calls Try.prog 146 #[.int .u64 x, .int .u64 y] w fun e w' => e = .returned (.tuple #[.int .u64 ((x * y / 18446744073709551616 : Nat) : Int), .int .u64 ((x * y % 18446744073709551616 : Nat) : Int)]) ∧ w' = w := Any.bits_Mul Try.lays212 x y hx hy w
end Go.Proofs
