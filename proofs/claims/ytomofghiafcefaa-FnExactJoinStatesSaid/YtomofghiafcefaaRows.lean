/-
  No cell of these rows narrows 'for every input' (looked for: loops, veiled, ifaces, maps, wideKeys, modest, calm, conditions, laid).
  DERIVED. THE GIVEN ROWS OF THIS SEAT. 2 by the template 'for every input the law returns true; each argument reads behind the call as it read before'; 0 by the template 'total and deterministic' (their statements: YtomofghiafcefaaTotals.lean).
  GIVEN WITH THE SEED: the statements are not yours to turn. If you find one false, say at which input.
  Laid BY PROGRAM, IN A SANDBOX (cutbox-rows.mjs): the forced cells as the released guide's own fill.sh prints them over the translation edc6fa86d1906d03… (all of the seat's roots in one cut). By AI agents, Wed Nov 11 2026. No macro, syntax, notation, axiom, sorry.
-/
import Derived.Test.YtomofghiafcefaaChecked
import GoSem.Claim
import GoSem.ClaimJoined
import GoSem.ClaimMapViews
import Derived.JoinedTies
import Derived.KernelRfl
namespace Go.Proofs.Ytomofghiafcefaa
/- THE CELL 'sum', in the pinned program and in every row, IS THE sha256 OF THE DUMP (.gsa) THAT YtomofghiafcefaaProg.lean LOADS. Nothing in Lean hashes anything: it is a label: what it is worth is what the hold of that sum in a sandbox is worth. -/
noncomputable def Try.pinned : Pinned := { name := "ytomofghiafcefaa", sum := "edc6fa86d1906d03b2cec8e4fffdd302b1e21c36e456a3832f5865e3ab924aab", checked := Try.checked }
namespace Rows
def none {H : Type} : Left H := { results := [], args := [] }

/-- 'laws.FnExactRestOfModel': WHATEVER THE INPUT: true; the input reads as it did. -/
def fnExactRestOfModelSpec : ChangeSpec := { name := "fnExactRestOfModel", fn := fun _ => fun
  | [d1, d2, d3] => { results := [.lit (.bool true)], args := [d1, d2, d3] }
  | _ => none }
def fnExactRestOfModelRow : OpenClaim := { program := "ytomofghiafcefaa", sum := "edc6fa86d1906d03b2cec8e4fffdd302b1e21c36e456a3832f5865e3ab924aab", func := "loop.example/g01357/laws.FnExactRestOfModel", spec := "fnExactRestOfModel", unfollowed := true, recurses := true, apart := false }
def FnExactRestOfModelSaid : Prop := fnExactRestOfModelRow.holds Try.pinned (OpenSpec.ofChange fnExactRestOfModelSpec)

/-- ITS FALSE NEIGHBOUR: 'it returns false'. Refute it at one input. -/
def fnExactRestOfModelWrong : ChangeSpec := { name := "fnExactRestOfModel", fn := fun _ => fun
  | [d1, d2, d3] => { results := [.lit (.bool false)], args := [d1, d2, d3] }
  | _ => none }
def FnExactRestOfModelWrongFalsely : Prop := fnExactRestOfModelRow.holds Try.pinned (OpenSpec.ofChange fnExactRestOfModelWrong)

/-- 'laws.FnExactJoinStates': WHATEVER THE INPUT: true; the input reads as it did. -/
def fnExactJoinStatesSpec : ChangeSpec := { name := "fnExactJoinStates", fn := fun _ => fun
  | [d1, d2, d3] => { results := [.lit (.bool true)], args := [d1, d2, d3] }
  | _ => none }
def fnExactJoinStatesRow : OpenClaim := { program := "ytomofghiafcefaa", sum := "edc6fa86d1906d03b2cec8e4fffdd302b1e21c36e456a3832f5865e3ab924aab", func := "loop.example/g01357/laws.FnExactJoinStates", spec := "fnExactJoinStates", unfollowed := true, recurses := true, apart := false }
def FnExactJoinStatesSaid : Prop := fnExactJoinStatesRow.holds Try.pinned (OpenSpec.ofChange fnExactJoinStatesSpec)

/-- ITS FALSE NEIGHBOUR: 'it returns false'. Refute it at one input. -/
def fnExactJoinStatesWrong : ChangeSpec := { name := "fnExactJoinStates", fn := fun _ => fun
  | [d1, d2, d3] => { results := [.lit (.bool false)], args := [d1, d2, d3] }
  | _ => none }
def FnExactJoinStatesWrongFalsely : Prop := fnExactJoinStatesRow.holds Try.pinned (OpenSpec.ofChange fnExactJoinStatesWrong)

/- THE SECOND FORM. 'bulk': how many values and letters a reading holds, each counted each time it is reached (what is shared counts as often as it is met; a slice's spare places count too). A statement '..UptoSaid' is the law's where the arguments, and the package variables that the reading takes, are together of bulk at most 1048576: NARROWER than '..Said'. Prove '..Said' where nothing that the law and all that it calls make is longer than what came in: it says more and counts as full. Else prove '..UptoSaid'. A law counts once. -/
mutual
def uptoBulk {H : Type} : DataW H → Nat
  | .lit (.string bytes) => bytes.length + 1
  | .lit _ => 1
  | .nil => 1
  | .ptr d => uptoBulk d + 1
  | .slice elems spare => uptoBulkAll elems + uptoBulkAll spare + 1
  | .agg parts => uptoBulkAll parts + 1
  | .iface _ d => uptoBulk d + 1
  | .map entries => uptoBulkEntries entries + 1
  | .held _ => 1
def uptoBulkAll {H : Type} : List (DataW H) → Nat
  | [] => 0
  | d :: r => uptoBulk d + uptoBulkAll r
def uptoBulkEntries {H : Type} : List (Lit × DataW H) → Nat
  | [] => 0
  | x :: r => uptoBulkEntry x + uptoBulkEntries r
def uptoBulkEntry {H : Type} : Lit × DataW H → Nat
  | (.string bytes, d) => bytes.length + uptoBulk d + 1
  | (_, d) => uptoBulk d + 1
 end
def uptoSmall : (H : Type) → List (DataW H) → Bool := fun _ ds => decide (uptoBulkAll ds ≤ 1048576)
def OpenSpec.upto (s : _root_.Go.ChangeSpec) : _root_.Go.OpenSpec := { _root_.Go.OpenSpec.ofChange s with cond := some uptoSmall }

/-- 'laws.FnExactRestOfModel', WHERE WHAT IT READS IS OF BULK AT MOST 1048576: true; the input reads as it did. -/
def fnExactRestOfModelUptoRow : OpenClaim := { program := "ytomofghiafcefaa", sum := "edc6fa86d1906d03b2cec8e4fffdd302b1e21c36e456a3832f5865e3ab924aab", func := "loop.example/g01357/laws.FnExactRestOfModel", spec := "fnExactRestOfModel", unfollowed := true, recurses := true, apart := false, narrowed := true }
def FnExactRestOfModelUptoSaid : Prop := fnExactRestOfModelUptoRow.holds Try.pinned (OpenSpec.upto fnExactRestOfModelSpec)

/-- 'laws.FnExactJoinStates', WHERE WHAT IT READS IS OF BULK AT MOST 1048576: true; the input reads as it did. -/
def fnExactJoinStatesUptoRow : OpenClaim := { program := "ytomofghiafcefaa", sum := "edc6fa86d1906d03b2cec8e4fffdd302b1e21c36e456a3832f5865e3ab924aab", func := "loop.example/g01357/laws.FnExactJoinStates", spec := "fnExactJoinStates", unfollowed := true, recurses := true, apart := false, narrowed := true }
def FnExactJoinStatesUptoSaid : Prop := fnExactJoinStatesUptoRow.holds Try.pinned (OpenSpec.upto fnExactJoinStatesSpec)

end Rows
end Go.Proofs.Ytomofghiafcefaa
