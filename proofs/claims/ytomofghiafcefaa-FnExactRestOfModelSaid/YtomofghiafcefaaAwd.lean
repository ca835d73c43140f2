/- areWords of the program. -/
import Derived.Test.YtomofghiafcefaaSsl
import Derived.Test.YtomofghiafcefaaWrd
namespace Go.Proofs.Ytomofghiafcefaa
open Go.RowKit
set_option linter.unusedVariables false
theorem allW_take {α : Type} {f : α → Bool} {ws : List α} {k : Nat} {x : α} (h : ws[k]? = some x) (h1 : (ws.take k).all f = true) (h2 : f x = true) : (ws.take (k + 1)).all f = true := by
  obtain ⟨hk, rfl⟩ := List.getElem?_eq_some_iff.1 h
  rw [List.take_succ_eq_append_getElem hk, List.all_append, h1]
  simp [h2]
theorem allW_no {α : Type} {f : α → Bool} {ws : List α} {k : Nat} {x : α} (h : ws[k]? = some x) (h2 : f x = false) : ws.all f = false := by
  rw [List.all_eq_false]
  exact ⟨x, List.mem_of_getElem? h, by simp [h2]⟩
end Go.Proofs.Ytomofghiafcefaa
