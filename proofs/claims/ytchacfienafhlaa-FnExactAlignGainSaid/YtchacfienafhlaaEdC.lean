/- EditCost of both programs: the last number of the table. -/
import Derived.Test.YtchacfienafhlaaTxtB
import Derived.Test.YtchacfienafhlaaEd
import Derived.Test.YtchacfienafhlaaEd2
namespace Go.Proofs.Ytchacfienafhlaa
open Go.RowKit Go.PlainAid
set_option linter.unusedVariables false
def ecB (a b : ByteArray) (p o c : Int) : Bool := txtB a && txtB b && allIn [p, o, c] 0 1000
def ecV (a b : ByteArray) (p o c : Int) : Int := if ecB a b p o c then ed a b p o c a.size b.size else 0
theorem costs3 {p o c : Int} (h : allIn [p, o, c] 0 1000 = true) : (0 ≤ p ∧ p ≤ 1000) ∧ (0 ≤ o ∧ o ≤ 1000) ∧ (0 ≤ c ∧ c ≤ 1000) := by
  simp only [allIn, List.all_cons, List.all_nil, Bool.and_true, Bool.and_eq_true] at h
  exact ⟨inB_true h.1, inB_true h.2.1, inB_true h.2.2⟩

end Go.Proofs.Ytchacfienafhlaa
