/- Two texts, and costs: what the predicates return. -/
import Derived.Test.YtomofghiafcefaaMga

namespace Go.Proofs.Ytomofghiafcefaa
open Go.RowKit
set_option linter.unusedVariables false

def allIn (xs : List Int) (lo hi : Int) : Bool := xs.all fun x => inB x lo hi
theorem allIn_take {xs : List Int} {lo hi x : Int} {k : Nat} (h : allIn (xs.take k) lo hi = true) (hx : xs[k]? = some x) (hi' : inB x lo hi = true) : allIn (xs.take (k + 1)) lo hi = true := by
  unfold allIn at *
  obtain ⟨hk, rfl⟩ := List.getElem?_eq_some_iff.1 hx
  rw [List.take_succ_eq_append_getElem hk, List.all_append, h]
  simpa using hi'
theorem allIn_no {xs : List Int} {lo hi x : Int} {k : Nat} (hx : xs[k]? = some x) (hi' : ¬ inB x lo hi = true) : false = allIn xs lo hi := by
  unfold allIn
  rw [eq_comm, List.all_eq_false]
  exact ⟨x, List.mem_of_getElem? hx, by simpa using hi'⟩
theorem allIn_full {xs : List Int} {lo hi : Int} {n : Nat} (h : allIn (xs.take n) lo hi = true) (hn : xs.length = n) : true = allIn xs lo hi := by
  rw [List.take_of_length_le (by omega)] at h; exact h.symm

end Go.Proofs.Ytomofghiafcefaa
