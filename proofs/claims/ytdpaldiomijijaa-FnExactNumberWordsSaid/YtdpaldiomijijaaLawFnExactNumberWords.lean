/- FnExactNumberWords: the walk: the law returns true. -/
import Derived.Test.YtdpaldiomijijaaNumW2
namespace Go.Proofs.Ytdpaldiomijijaa.fnExactNumberWords
open Go.RowKit
set_option linter.unusedVariables false
theorem walk (a0 : Int) (w : World) (w0 : (Lit.int .i64 a0).wf = true) :
    Calls Try.prog 8 #[.int .i64 a0] w fun e w' => e = .returned (.bool true) ∧ Below w.heap.size w w' := by
  go_enter Try.func8, Try.ntmps8
  go_wp2_with (first | (go_at_call 27; refine (sNumberWords_any _ _).mono ?_; rintro e w1 ⟨rfl, hb1⟩) | (go_at_call 28; refine (iNumberWords_any _ _).mono ?_; rintro e w2 ⟨rfl, hb2⟩))
  all_goals go_ret
  all_goals exact ⟨rfl, hb1.trans (hb2.mono hb1.size)⟩
end Go.Proofs.Ytdpaldiomijijaa.fnExactNumberWords
