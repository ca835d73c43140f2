/- Several texts in one: Small contracts: texts and ranges: what the predicates of the words return. Copies and equality of lists of numbers, as the laws make them. -/
import Derived.Test.YtomofghiafcefaaRows
import Derived.Test.YtomofghiafcefaaMem
import Derived.Deep.QuietTactic
import Derived.BigQuiet

namespace Go.Proofs.Ytomofghiafcefaa
open Go.RowKit
set_option linter.unusedVariables false

def txtB (s : ByteArray) : Bool := decide (s.size ≤ 48)
def inB (n lo hi : Int) : Bool := decide (lo ≤ n ∧ n ≤ hi)
theorem inB_true {n lo hi : Int} (h : inB n lo hi = true) : lo ≤ n ∧ n ≤ hi := of_decide_eq_true h
theorem txtB_true {s : ByteArray} (h : txtB s = true) : s.size ≤ 48 := of_decide_eq_true h
theorem txtB_cast (s : ByteArray) : decide ((s.size : Int) ≤ 48) = txtB s := by unfold txtB; exact decide_eq_decide.2 (by omega)
theorem inB_yes {n lo hi : Int} (h : lo ≤ n) : decide (n ≤ hi) = inB n lo hi := by unfold inB; exact decide_eq_decide.2 (by omega)
theorem inB_no {n lo hi : Int} (h : n < lo) : false = inB n lo hi := by unfold inB; exact (decide_eq_false (by omega)).symm

theorem sIn_any (n lo hi : Int) (w : World) :
    Calls Try.prog 20 #[.int .i64 n, .int .i64 lo, .int .i64 hi] w fun e w' => e = .returned (.bool (inB n lo hi)) ∧ w = w' := by
  go_enter Try.func20, Try.ntmps20
  go_wp2
  all_goals go_ret
  · exact ⟨ret_bool (inB_yes (by assumption)), rfl⟩
  · exact ⟨ret_bool (inB_no (by assumption)), rfl⟩
theorem iIn_any (n lo hi : Int) (w : World) :
    Calls Try.prog 25 #[.int .i64 n, .int .i64 lo, .int .i64 hi] w fun e w' => e = .returned (.bool (inB n lo hi)) ∧ w = w' := by
  go_enter Try.func25, Try.ntmps25
  go_wp2
  all_goals go_ret
  · exact ⟨ret_bool (inB_yes (by assumption)), rfl⟩
  · exact ⟨ret_bool (inB_no (by assumption)), rfl⟩
end Go.Proofs.Ytomofghiafcefaa


namespace Go.Proofs.Ytomofghiafcefaa
open Go.RowKit
set_option linter.unusedVariables false

theorem infoInt : (Try.prog.info? 2).map (fun i => (i.zero, i.size, i.bytes)) = some (some (.int .i64 0), 1, 8) := by kernel_rfl

end Go.Proofs.Ytomofghiafcefaa
