/- FnExactAlignGain: the walk: the law returns true. -/
import Derived.Test.YtchacfienafhlaaAgL
namespace Go.Proofs.Ytchacfienafhlaa.fnExactAlignGain
open Go.RowKit
set_option linter.unusedVariables false
set_option maxRecDepth 100000 in
set_option maxHeartbeats 2000000 in
theorem walk (a0 a1 : ByteArray) (a2 a3 a4 a5 : Int) (w : World) (w0 : a0.size ≤ maxLen) (w1 : a1.size ≤ maxLen) (w2 : (Lit.int .i64 a2).wf = true) (w3 : (Lit.int .i64 a3).wf = true) (w4 : (Lit.int .i64 a4).wf = true) (w5 : (Lit.int .i64 a5).wf = true) :
    Calls Try.prog 3 #[.string a0, .string a1, .int .i64 a2, .int .i64 a3, .int .i64 a4, .int .i64 a5] w fun e w' => e = .returned (.bool true) ∧ Below w.heap.size w w' := by
  have h0 := w0; unfold maxLen at h0
  have h1 := w1; unfold maxLen at h1
  by_cases ha : a0.size ≤ 1048576
  · by_cases hb : a1.size ≤ 1048576
    · go_enter Try.func3, Try.ntmps3
      go_wp2_with (first | (go_at_call 7; refine (sAlign_any _ _ _ _ _ _ w0 w1 _).mono ?_; rintro e v1 ⟨rfl, hb1⟩) | (go_at_call 8; refine (iAlign_any _ _ _ _ _ _ w0 w1 _).mono ?_; rintro e v2 ⟨rfl, hb2⟩))
      all_goals go_ret
      all_goals exact ⟨rfl, hb1.trans (hb2.mono hb1.size)⟩
    · have hb' : 1048576 < a1.size := by omega
      clear hb
      go_enter Try.func3, Try.ntmps3
      go_wp2
      go_ret
      exact ⟨rfl, Below.refl _ _⟩
  · have ha' : 1048576 < a0.size := by omega
    clear ha
    go_enter Try.func3, Try.ntmps3
    go_wp2
    go_ret
    exact ⟨rfl, Below.refl _ _⟩
end Go.Proofs.Ytchacfienafhlaa.fnExactAlignGain
