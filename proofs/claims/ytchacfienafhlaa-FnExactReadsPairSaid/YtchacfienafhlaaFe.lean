/- Features of both programs. -/
import Derived.Test.YtchacfienafhlaaFeP
import Derived.Deep.LoopGhost
import Derived.Deep.QuietTactic
import Derived.BigQuiet
namespace Go.Proofs.Ytchacfienafhlaa
open Go.RowKit
set_option linter.unusedVariables false
theorem quiet_left {P : Program} {f : FuncId} {args : Array Value} {w : World} {n : Nat} {v : Value}
    (h : Calls P f args (w.drewN n) fun e w' => e = .returned v ∧ w.drewN n = w') : Calls P f args (w.drewN n) fun e w'' => e = .returned v ∧ ∃ m, w'' = w.drewN m :=
  h.mono fun _ _ ⟨he, hm⟩ => ⟨he, n, hm.symm⟩
theorem feB_zero {fs : List Int} {k : Nat} {x : Int} (hx : fs[k]? = some x) (h : inB x 0 255 = false) : feB fs = false := feB_in (by rw [← allIn_no hx (by rw [h]; simp)])
end Go.Proofs.Ytchacfienafhlaa
