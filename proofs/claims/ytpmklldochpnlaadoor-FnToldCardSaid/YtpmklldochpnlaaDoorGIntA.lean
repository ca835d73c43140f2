/- The library's variable that strings.Index reads holds some number. Of seat r2's numbers alone. -/
import Derived.Test.YtpmklldochpnlaaDoorMem

namespace Go.Proofs.YtpmklldochpnlaaDoor
open Go.RowKit
def GInt (w : World) : Prop := ∃ m : Int, w.cell? ⟨0, 0, none⟩ = some (.int .i64 m)
theorem GInt.below {w w' : World} {B : Nat} (h : GInt w) (hb : Below B w w') (hB : w.heap.size ≤ B) : GInt w' := by
  obtain ⟨m, hm⟩ := h
  have h0 := World.block_lt_of_cell? w _ hm
  exact ⟨m, (hb.cell (Nat.lt_of_lt_of_le h0 hB)).trans hm⟩
end Go.Proofs.YtpmklldochpnlaaDoor
