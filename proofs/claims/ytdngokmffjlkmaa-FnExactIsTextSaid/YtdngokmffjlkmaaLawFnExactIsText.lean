/- FnExactIsText: for every text the law returns true and the text reads as it did. No condition. -/
import Derived.Test.YtdngokmffjlkmaaTxt
import Derived.ProofKit
import Derived.OpenShut
import Derived.ShutString
namespace Go.Proofs.Ytdngokmffjlkmaa.fnExactIsText
open Go.ChangeShapes Go.WideShapes Go.ChangeAt Go.RowKit
open Go.ChangeMaps (open_string shut_string)
theorem walk (a0 : ByteArray) (w : World) (w0 : a0.size ≤ maxLen) :
    Calls Try.prog 3 #[.string a0] w fun e w' => e = .returned (.bool true) ∧ Below w.heap.size w w' := by
  by_cases h : a0.size ≤ 1048576
  · have h1 := w0; unfold maxLen at h1
    go_enter Try.func3, Try.ntmps3
    go_wp2_with (first | (go_at_call 5; refine (sIsText_any _ w0 _).mono ?_; rintro e w' ⟨rfl, rfl⟩) | (go_at_call 6; refine (iIsText_any _ w0 _).mono ?_; rintro e w' ⟨rfl, rfl⟩))
    go_ret
    exact ⟨rfl, Below.refl _ _⟩
  · have h1 := w0; unfold maxLen at h1
    go_enter Try.func3, Try.ntmps3
    go_wp2
    go_ret
    exact ⟨rfl, Below.refl _ _⟩
end Go.Proofs.Ytdngokmffjlkmaa.fnExactIsText
