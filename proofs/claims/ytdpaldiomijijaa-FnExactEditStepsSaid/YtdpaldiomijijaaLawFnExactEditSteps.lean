/- FnExactEditSteps: the walk: the law returns true. -/
import Derived.Test.YtdpaldiomijijaaEsC
namespace Go.Proofs.Ytdpaldiomijijaa.fnExactEditSteps
open Go.RowKit
set_option linter.unusedVariables false
set_option maxHeartbeats 1000000 in
theorem walk (a0 a1 : ByteArray) (w : World) (w0 : a0.size ≤ maxLen) (w1 : a1.size ≤ maxLen) :
    Calls Try.prog 14 #[.string a0, .string a1] w fun e w' => e = .returned (.bool true) ∧ Below w.heap.size w w' := by
  have h0 := w0; unfold maxLen at h0
  have h1 := w1; unfold maxLen at h1
  by_cases ha : a0.size ≤ 1048576
  · by_cases hb : a1.size ≤ 1048576
    · go_enter Try.func14, Try.ntmps14
      go_wp2_with (first | (go_at_call 39; refine (sEditSteps_any _ _ w0 w1 _).mono ?_; rintro e v1 ⟨rfl, hb1⟩) | (go_at_call 40; refine (iEditSteps_any _ _ w0 w1 _).mono ?_; rintro e v2 ⟨rfl, hb2⟩))
      all_goals go_ret
      all_goals exact ⟨rfl, hb1.trans (hb2.mono hb1.size)⟩
    · have hb' : 1048576 < a1.size := by omega
      clear hb
      go_enter Try.func14, Try.ntmps14
      go_wp2
      go_ret
      exact ⟨rfl, Below.refl _ _⟩
  · have ha' : 1048576 < a0.size := by omega
    clear ha
    go_enter Try.func14, Try.ntmps14
    go_wp2
    go_ret
    exact ⟨rfl, Below.refl _ _⟩
end Go.Proofs.Ytdpaldiomijijaa.fnExactEditSteps
