/- FnExactUnpackText: the walk: the law returns true. -/
import Derived.Test.YtpmklldochpnlaaDoorUpS
namespace Go.Proofs.YtpmklldochpnlaaDoor.fnExactUnpackText
open Go.RowKit
set_option linter.unusedVariables false
set_option maxHeartbeats 1000000 in
theorem walk (a0 : ByteArray) (w : World) (w0 : a0.size ≤ maxLen) :
    Calls Tryd.prog 4 #[.string a0] w fun e w' => e = .returned (.bool true) ∧ Below w.heap.size w w' := by
  have h1 := w0; unfold maxLen at h1
  by_cases h : a0.size ≤ 1048576
  · go_enter Tryd.func4, Tryd.ntmps4
    go_wp2_with (first | (go_at_call 8; refine (sUnpack_any _ (by assumption) _).mono ?_; rintro e w1 ⟨rfl, hb1⟩) | (go_at_call 9; refine (iUnpack_any _ w0 _).mono ?_; rintro e w2 ⟨rfl, hb2⟩))
    all_goals go_ret
    all_goals exact ⟨rfl, hb1.trans (hb2.mono hb1.size)⟩
  · have h' : 1048576 < a0.size := by omega
    clear h
    go_enter Tryd.func4, Tryd.ntmps4
    go_wp2
    go_ret
    exact ⟨rfl, Below.refl _ _⟩
end Go.Proofs.YtpmklldochpnlaaDoor.fnExactUnpackText
