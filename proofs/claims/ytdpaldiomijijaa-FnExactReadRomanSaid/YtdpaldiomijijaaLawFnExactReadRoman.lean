/- FnExactReadRoman: the walk: the law returns true. -/
import Derived.Test.YtdpaldiomijijaaReadRoman
namespace Go.Proofs.Ytdpaldiomijijaa.fnExactReadRoman
open Go.RowKit
set_option linter.unusedVariables false
theorem sRead (t : ByteArray) (ht : t.size ≤ maxLen) (w : World) :
    Calls Try.prog 23 #[.string t] w fun e w' => e = .returned (.tuple #[.int .i64 (rrI t).1, .bool (rrI t).2]) ∧ Below w.heap.size w w' := by
  rw [rr_same]; exact sReadRoman_any t ht w
theorem walk (a0 : ByteArray) (w : World) (w0 : a0.size ≤ maxLen) :
    Calls Try.prog 6 #[.string a0] w fun e w' => e = .returned (.bool true) ∧ Below w.heap.size w w' := by
  have h1 := w0; unfold maxLen at h1
  by_cases h : a0.size ≤ 1048576
  · go_enter Try.func6, Try.ntmps6
    go_wp2_with (first | (go_at_call 23; refine (sRead _ w0 _).mono ?_; rintro e w1 ⟨rfl, hb1⟩) | (go_at_call 24; refine (iReadRoman_any _ w0 _).mono ?_; rintro e w2 ⟨rfl, hb2⟩))
    all_goals go_ret
    all_goals exact ⟨rfl, hb1.trans (hb2.mono hb1.size)⟩
  · go_enter Try.func6, Try.ntmps6
    go_wp2
    go_ret
    exact ⟨rfl, Below.refl _ _⟩
end Go.Proofs.Ytdpaldiomijijaa.fnExactReadRoman
