/- FnExactSharedText: the walk: the law returns true. -/
import Derived.Test.YtpmklldochpnlaaShI
namespace Go.Proofs.Ytpmklldochpnlaa.fnExactSharedText
open Go.RowKit
set_option linter.unusedVariables false
set_option maxHeartbeats 1000000 in
theorem walk (a b : ByteArray) (w : World) (hG : GInt w) (w0 : a.size ≤ maxLen) (w1 : b.size ≤ maxLen) :
    Calls Try.prog 3 #[.string a, .string b] w fun e w' => e = .returned (.bool true) ∧ Below w.heap.size w w' := by
  have h0 := w0; unfold maxLen at h0
  have h1 := w1; unfold maxLen at h1
  by_cases ha : a.size ≤ 1048576
  · by_cases hb : b.size ≤ 1048576
    · go_enter Try.func3, Try.ntmps3
      go_wp2_with (first | (go_at_call 12; refine (sSharedText_any _ _ w0 w1 _).mono ?_; rintro e v1 ⟨X, Y, L, rfl, hs, hb1⟩) | (go_at_call 13; refine (iSharedText_any _ _ w0 w1 _ (hG.below hb1 (Nat.le_refl _))).mono ?_; rintro e v2 ⟨X', Y', L', rfl, hs', hb2⟩; obtain ⟨rfl, rfl, rfl⟩ := hs.uniq hs'))
      all_goals go_ret
      all_goals exact ⟨rfl, hb1.trans (hb2.mono hb1.size)⟩
    · have hb' : 1048576 < b.size := by omega
      clear hb
      go_enter Try.func3, Try.ntmps3
      go_wp2
      go_ret
      exact ⟨rfl, Below.refl _ _⟩
  · have ha' : 1048576 < a.size := by omega
    clear ha
    go_enter Try.func3, Try.ntmps3
    go_wp2
    go_ret
    exact ⟨rfl, Below.refl _ _⟩
end Go.Proofs.Ytpmklldochpnlaa.fnExactSharedText
