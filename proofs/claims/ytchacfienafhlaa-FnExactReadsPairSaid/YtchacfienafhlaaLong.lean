/- Words of numbers: what 'IsLongWord' returns in both programs; copies and equality of lists. -/
import Derived.Test.YtchacfienafhlaaTxtB
namespace Go.Proofs.Ytchacfienafhlaa
open Go.RowKit
set_option linter.unusedVariables false

def longB (xs : List Int) (l : Int) : Bool := inB l 1 4 && decide (xs.length ≤ 24) && allIn xs 0 (l - 1)
theorem longB_no {xs : List Int} {l : Int} (h : ¬ inB l 1 4 = true) : false = longB xs l := by simp [longB, h]
theorem longB_len {xs : List Int} {l : Int} (h : 24 < xs.length) : false = longB xs l := by
  have : decide (xs.length ≤ 24) = false := decide_eq_false (by omega)
  simp only [longB, this, Bool.and_false, Bool.false_and]
theorem longB_in {xs : List Int} {l : Int} (h : inB l 1 4 = true) (hl : xs.length ≤ 24) : longB xs l = allIn xs 0 (l - 1) := by simp [longB, h, hl]
end Go.Proofs.Ytchacfienafhlaa
