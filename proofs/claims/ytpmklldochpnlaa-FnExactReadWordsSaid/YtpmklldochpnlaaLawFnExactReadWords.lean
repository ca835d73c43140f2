/- FnExactReadWords: the walk: the law returns true. -/
import Derived.Test.YtpmklldochpnlaaRwI
namespace Go.Proofs.Ytpmklldochpnlaa.fnExactReadWords
open Go.RowKit
set_option linter.unusedVariables false
set_option maxHeartbeats 1000000 in
theorem walk (t : ByteArray) (w : World) (hG : GInt w) (wt : t.size ≤ maxLen) :
    Calls Try.prog 10 #[.string t] w fun e w' => e = .returned (.bool true) ∧ Below w.heap.size w w' := by
  have h0 := wt; unfold maxLen at h0
  by_cases ha : t.size ≤ 1048576
  · have hS := sReadWords_any t ha
    have hI := iReadWords_any t ha
    obtain ⟨V, hV⟩ : ∃ V, V = rwV t := ⟨_, rfl⟩
    rw [← hV] at hS hI
    clear hV
    go_enter Try.func10, Try.ntmps10
    go_wp2_with fail
    refine (hS _).mono ?_; rintro e v1 ⟨rfl, hb1⟩; clear hS
    go_wp2_with fail
    refine (hI _ (hG.below hb1 (Nat.le_refl _))).mono ?_; rintro e v2 ⟨rfl, hb2⟩; clear hI
    go_wp2_with fail
    all_goals go_ret
    all_goals exact ⟨rfl, hb1.trans (hb2.mono hb1.size)⟩
  · have ha' : 1048576 < t.size := by omega
    clear ha
    go_enter Try.func10, Try.ntmps10
    go_wp2
    go_ret
    exact ⟨rfl, Below.refl _ _⟩
end Go.Proofs.Ytpmklldochpnlaa.fnExactReadWords
