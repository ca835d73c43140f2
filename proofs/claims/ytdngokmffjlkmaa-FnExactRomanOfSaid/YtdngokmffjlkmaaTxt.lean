/- Small contracts: texts and ranges: what the predicates of the words return. -/
import Derived.Test.YtdngokmffjlkmaaRows
import Derived.WalkKit
import Derived.WalkSpells
import Derived.WalkLawsBesides
import Derived.Lib.Hide
import Derived.Handy
namespace Go.Proofs.Ytdngokmffjlkmaa
open Go.RowKit

theorem ret_bool {a b : Bool} (h : a = b) : Ending.returned (.bool a) = Ending.returned (.bool b) := by rw [h]
theorem ret_int {k : IntKind} {a b : Int} (h : a = b) : Ending.returned (.int k a) = Ending.returned (.int k b) := by rw [h]
theorem ret_str {a b : ByteArray} (h : a = b) : Ending.returned (.string a) = Ending.returned (.string b) := by rw [h]

def txtB (s : ByteArray) : Bool := decide (s.size ≤ 48)
def inB (n lo hi : Int) : Bool := decide (lo ≤ n ∧ n ≤ hi)
theorem inB_true {n lo hi : Int} (h : inB n lo hi = true) : lo ≤ n ∧ n ≤ hi := of_decide_eq_true h
theorem txtB_true {s : ByteArray} (h : txtB s = true) : s.size ≤ 48 := of_decide_eq_true h
theorem txtB_cast (s : ByteArray) : decide ((s.size : Int) ≤ 48) = txtB s := by unfold txtB; exact decide_eq_decide.2 (by omega)
theorem inB_yes {n lo hi : Int} (h : lo ≤ n) : decide (n ≤ hi) = inB n lo hi := by unfold inB; exact decide_eq_decide.2 (by omega)
theorem inB_no {n lo hi : Int} (h : n < lo) : false = inB n lo hi := by unfold inB; exact (decide_eq_false (by omega)).symm

theorem sText_any (s : ByteArray) (hs : s.size ≤ maxLen) (w : World) :
    Calls Try.prog 9 #[.string s] w fun e w' => e = .returned (.bool (txtB s)) ∧ w = w' := by
  unfold maxLen at hs
  go_enter Try.func9, Try.ntmps9
  go_wp2
  go_ret
  exact ⟨ret_bool (txtB_cast s), rfl⟩
theorem sIsText_any (s : ByteArray) (hs : s.size ≤ maxLen) (w : World) :
    Calls Try.prog 5 #[.string s] w fun e w' => e = .returned (.bool (txtB s)) ∧ w = w' := by
  go_enter Try.func5, Try.ntmps5
  go_wp2_with (go_at_call 9; refine (sText_any _ hs _).mono ?_; rintro e w' ⟨rfl, rfl⟩)
  go_ret
  exact ⟨rfl, rfl⟩
theorem iIsText_any (s : ByteArray) (hs : s.size ≤ maxLen) (w : World) :
    Calls Try.prog 6 #[.string s] w fun e w' => e = .returned (.bool (txtB s)) ∧ w = w' := by
  unfold maxLen at hs
  go_enter Try.func6, Try.ntmps6
  go_wp2
  go_ret
  exact ⟨ret_bool (txtB_cast s), rfl⟩

theorem sIn_any (n lo hi : Int) (w : World) :
    Calls Try.prog 10 #[.int .i64 n, .int .i64 lo, .int .i64 hi] w fun e w' => e = .returned (.bool (inB n lo hi)) ∧ w = w' := by
  go_enter Try.func10, Try.ntmps10
  go_wp2
  all_goals go_ret
  · exact ⟨ret_bool (inB_yes (by assumption)), rfl⟩
  · exact ⟨ret_bool (inB_no (by assumption)), rfl⟩
theorem iIn_any (n lo hi : Int) (w : World) :
    Calls Try.prog 12 #[.int .i64 n, .int .i64 lo, .int .i64 hi] w fun e w' => e = .returned (.bool (inB n lo hi)) ∧ w = w' := by
  go_enter Try.func12, Try.ntmps12
  go_wp2
  all_goals go_ret
  · exact ⟨ret_bool (inB_yes (by assumption)), rfl⟩
  · exact ⟨ret_bool (inB_no (by assumption)), rfl⟩
end Go.Proofs.Ytdngokmffjlkmaa
