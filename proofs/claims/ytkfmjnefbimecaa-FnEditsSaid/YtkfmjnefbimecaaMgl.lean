/- Several texts in one: strings.Index: the contract of the shelf, laid at this program by the kit's lay-shelf and lay-plain (the seat's first global is bytealg.MaxLen). The library's variable that strings.Index reads holds some number. Of seat r2's numbers alone. -/
import Derived.Shelf.Strings.Search2
import Derived.Shelf.Strings.Search3
import Derived.Test.YtkfmjnefbimecaaProg
import Derived.Test.YtkfmjnefbimecaaMem

namespace Go.Proofs
open Go.Shelf
def Try.lays143_ren : Go.Shelf.Ren := ⟨fun | 143 => 86 | 219 => 120 | 217 => 119 | 225 => 137 | 224 => 138 | 267 => 139 | 266 => 136 | 314 => 153 | n => n, fun | 9 => 9 | 3 => 3 | 4 => 4 | 5 => 5 | 46 => 135 | 146 => 153 | 51 => 152 | n => n, fun | 1 => 0 | n => n⟩
theorem Try.lays143 : Go.Proofs.Lays.n143 Try.prog Try.lays143_ren := {
  mixed := by kernel_rfl
  f143 := Try.func86.trans (congrArg some (by kernel_rfl))
  f217 := Try.func119.trans (congrArg some (by kernel_rfl))
  f219 := Try.func120.trans (congrArg some (by kernel_rfl))
  f224 := Try.func138.trans (congrArg some (by kernel_rfl))
  f225 := Try.func137.trans (congrArg some (by kernel_rfl))
  f266 := Try.func136.trans (congrArg some (by kernel_rfl))
  f267 := Try.func139.trans (congrArg some (by kernel_rfl))
  f314 := Try.func153.trans (congrArg some (by kernel_rfl))
  t3 := Try.underlying3
  a3 := Try.isAgg3
  z3 := Try.sizeOf3
  v3 := Try.zeroValue3
  t4 := Try.underlying4
  a4 := Try.isAgg4
  z4 := Try.sizeOf4
  v4 := Try.zeroValue4
  t5 := Try.underlying5
  a5 := Try.isAgg5
  z5 := Try.sizeOf5
  v5 := Try.zeroValue5
  t9 := Try.underlying9
  a9 := Try.isAgg9
  z9 := Try.sizeOf9
  v9 := Try.zeroValue9
  t46 := Try.underlying135
  a46 := Try.isAgg135
  z46 := Try.sizeOf135
  v46 := Try.zeroValue135
  t51 := Try.underlying152
  a51 := Try.isAgg152
  z51 := Try.sizeOf152
  v51 := Try.zeroValue152
  t146 := Try.underlying153
  a146 := Try.isAgg153
  z146 := Try.sizeOf153
  v146 := Try.zeroValue153
  g1 := by kernel_rfl }
open Go.RowKit Go.Lib in
theorem Try.strings_Index (s sub : ByteArray) (m : Int) (w : World) (hs : s.size < 4294967281) (hm : w.cell? ⟨0, 0, none⟩ = some (.int .i64 m)) :
    Calls Try.prog 86 #[.string s, .string sub] w fun e w' => e = .returned (.int .i64 (Lib.index s.data.toList sub.data.toList)) ∧ w' = w := Any.strings_Index Try.lays143 s sub m w hs hm
end Go.Proofs


namespace Go.Proofs.Ytkfmjnefbimecaa
open Go.RowKit
def GInt (w : World) : Prop := ∃ m : Int, w.cell? ⟨0, 0, none⟩ = some (.int .i64 m)
theorem GInt.below {w w' : World} {B : Nat} (h : GInt w) (hb : Below B w w') (hB : w.heap.size ≤ B) : GInt w' := by
  obtain ⟨m, hm⟩ := h
  have h0 := World.block_lt_of_cell? w _ hm
  exact ⟨m, (hb.cell (Nat.lt_of_lt_of_le h0 hB)).trans hm⟩
end Go.Proofs.Ytkfmjnefbimecaa
