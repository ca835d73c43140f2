/- Rows that a call handed out: equality, and what marks leave of them. -/
import Derived.Test.YtomofghiafcefaaMk
namespace Go.Proofs.Ytomofghiafcefaa
open Go.RowKit
set_option linter.unusedVariables false
theorem RowI.nil (w : World) (base : Nat) (t : TypeId) : RowI w base t (.slice none 0 0) [] := ⟨by simp [iv], .inl ⟨rfl, rfl⟩⟩
theorem RowI.but {w w' : World} {base g : Nat} {t : TypeId} {v : Value} {r : List Int} (h : RowI w base t v r) (hb : But g w w') (hg : g < base) : RowI w' base t v r := by
  refine World.ownsRow.kept (row := some g) h ⟨hb.1, hb.2.1, hb.2.2.1, hb.2.2.2.1, fun k hk hne => hb.2.2.2.2 k hk (fun e => hne (by rw [e]))⟩ ?_
  cases hv : v.ownBlock with
  | none => simp
  | some k =>
    have := (World.ownsRow.lt h k hv).1
    simp; omega
theorem But.below' {g B : Nat} {a b : World} (h : But g a b) (hB : B ≤ g) (hs : g < a.heap.size) : Below B a b := h.below hB (by omega)
end Go.Proofs.Ytomofghiafcefaa
