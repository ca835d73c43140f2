/-
  No cell of these rows narrows 'for every input' (looked for: loops, veiled, ifaces, maps, wideKeys, modest, calm, conditions, laid).
  DERIVED. THE GIVEN ROWS OF THIS SEAT. 4 by the template 'for every input the law returns true; each argument reads behind the call as it read before'; 0 by the template 'total and deterministic' (their statements: YtegponioggpkcaaTotals.lean).
  GIVEN WITH THE SEED: the statements are not yours to turn. If you find one false, say at which input.
  Laid BY PROGRAM, IN A SANDBOX (cutbox-rows.mjs): the forced cells as the released guide's own fill.sh prints them over the translation 25e89651f1c93f54… (all of the seat's roots in one cut). By AI agents, Wed Nov 11 2026. No macro, syntax, notation, axiom, sorry.
-/
import Derived.Test.YtegponioggpkcaaChecked
import GoSem.Claim
import GoSem.ClaimJoined
import GoSem.ClaimMapViews
import Derived.JoinedTies
import Derived.KernelRfl
namespace Go.Proofs.Ytegponioggpkcaa
/- THE CELL 'sum', in the pinned program and in every row, IS THE sha256 OF THE DUMP (.gsa) THAT YtegponioggpkcaaProg.lean LOADS. Nothing in Lean hashes anything: it is a label: what it is worth is what the hold of that sum in a sandbox is worth. -/
noncomputable def Try.pinned : Pinned := { name := "ytegponioggpkcaa", sum := "25e89651f1c93f54d7448cafd1979effcaa98d3ec12dee61a84031c8a181af69", checked := Try.checked }
namespace Rows
def none {H : Type} : Left H := { results := [], args := [] }

/-- 'laws.FnMachines': WHATEVER THE INPUT: true; the input reads as it did. -/
def fnMachinesSpec : ChangeSpec := { name := "fnMachines", fn := fun _ => fun
  | [d1, d2] => { results := [.lit (.bool true)], args := [d1, d2] }
  | _ => none }
def fnMachinesRow : OpenClaim := { program := "ytegponioggpkcaa", sum := "25e89651f1c93f54d7448cafd1979effcaa98d3ec12dee61a84031c8a181af69", func := "loop.example/g01357/laws.FnMachines", spec := "fnMachines", apart := false }
def FnMachinesSaid : Prop := fnMachinesRow.holds Try.pinned (OpenSpec.ofChange fnMachinesSpec)

/-- ITS FALSE NEIGHBOUR: 'it returns false'. Refute it at one input. -/
def fnMachinesWrong : ChangeSpec := { name := "fnMachines", fn := fun _ => fun
  | [d1, d2] => { results := [.lit (.bool false)], args := [d1, d2] }
  | _ => none }
def FnMachinesWrongFalsely : Prop := fnMachinesRow.holds Try.pinned (OpenSpec.ofChange fnMachinesWrong)

/-- 'laws.FnExactBestWord': WHATEVER THE INPUT: true; the input reads as it did. -/
def fnExactBestWordSpec : ChangeSpec := { name := "fnExactBestWord", fn := fun _ => fun
  | [d] => { results := [.lit (.bool true)], args := [d] }
  | _ => none }
def fnExactBestWordRow : OpenClaim := { program := "ytegponioggpkcaa", sum := "25e89651f1c93f54d7448cafd1979effcaa98d3ec12dee61a84031c8a181af69", func := "loop.example/g01357/laws.FnExactBestWord", spec := "fnExactBestWord", unfollowed := true, recurses := true, apart := false }
def FnExactBestWordSaid : Prop := fnExactBestWordRow.holds Try.pinned (OpenSpec.ofChange fnExactBestWordSpec)

/-- ITS FALSE NEIGHBOUR: 'it returns false'. Refute it at one input. -/
def fnExactBestWordWrong : ChangeSpec := { name := "fnExactBestWord", fn := fun _ => fun
  | [d] => { results := [.lit (.bool false)], args := [d] }
  | _ => none }
def FnExactBestWordWrongFalsely : Prop := fnExactBestWordRow.holds Try.pinned (OpenSpec.ofChange fnExactBestWordWrong)

/-- 'laws.FnExactTidyOf': WHATEVER THE INPUT: true; the input reads as it did. -/
def fnExactTidyOfSpec : ChangeSpec := { name := "fnExactTidyOf", fn := fun _ => fun
  | [d] => { results := [.lit (.bool true)], args := [d] }
  | _ => none }
def fnExactTidyOfRow : OpenClaim := { program := "ytegponioggpkcaa", sum := "25e89651f1c93f54d7448cafd1979effcaa98d3ec12dee61a84031c8a181af69", func := "loop.example/g01357/laws.FnExactTidyOf", spec := "fnExactTidyOf", unfollowed := true, recurses := true, apart := false }
def FnExactTidyOfSaid : Prop := fnExactTidyOfRow.holds Try.pinned (OpenSpec.ofChange fnExactTidyOfSpec)

/-- ITS FALSE NEIGHBOUR: 'it returns false'. Refute it at one input. -/
def fnExactTidyOfWrong : ChangeSpec := { name := "fnExactTidyOf", fn := fun _ => fun
  | [d] => { results := [.lit (.bool false)], args := [d] }
  | _ => none }
def FnExactTidyOfWrongFalsely : Prop := fnExactTidyOfRow.holds Try.pinned (OpenSpec.ofChange fnExactTidyOfWrong)

/-- 'laws.FnExactTrimOf': WHATEVER THE INPUT: true; the input reads as it did. -/
def fnExactTrimOfSpec : ChangeSpec := { name := "fnExactTrimOf", fn := fun _ => fun
  | [d] => { results := [.lit (.bool true)], args := [d] }
  | _ => none }
def fnExactTrimOfRow : OpenClaim := { program := "ytegponioggpkcaa", sum := "25e89651f1c93f54d7448cafd1979effcaa98d3ec12dee61a84031c8a181af69", func := "loop.example/g01357/laws.FnExactTrimOf", spec := "fnExactTrimOf", unfollowed := true, recurses := true, apart := false }
def FnExactTrimOfSaid : Prop := fnExactTrimOfRow.holds Try.pinned (OpenSpec.ofChange fnExactTrimOfSpec)

/-- ITS FALSE NEIGHBOUR: 'it returns false'. Refute it at one input. -/
def fnExactTrimOfWrong : ChangeSpec := { name := "fnExactTrimOf", fn := fun _ => fun
  | [d] => { results := [.lit (.bool false)], args := [d] }
  | _ => none }
def FnExactTrimOfWrongFalsely : Prop := fnExactTrimOfRow.holds Try.pinned (OpenSpec.ofChange fnExactTrimOfWrong)

/- THE SECOND FORM. 'bulk': how many values and letters a reading holds, each counted each time it is reached (what is shared counts as often as it is met; a slice's spare places count too). A statement '..UptoSaid' is the law's where the arguments, and the package variables that the reading takes, are together of bulk at most 1048576: NARROWER than '..Said'. Prove '..Said' where nothing that the law and all that it calls make is longer than what came in: it says more and counts as full. Else prove '..UptoSaid'. A law counts once. -/
mutual
def uptoBulk {H : Type} : DataW H → Nat
  | .lit (.string bytes) => bytes.length + 1
  | .lit _ => 1
  | .nil => 1
  | .ptr d => uptoBulk d + 1
  | .slice elems spare => uptoBulkAll elems + uptoBulkAll spare + 1
  | .agg parts => uptoBulkAll parts + 1
  | .iface _ d => uptoBulk d + 1
  | .map entries => uptoBulkEntries entries + 1
  | .held _ => 1
def uptoBulkAll {H : Type} : List (DataW H) → Nat
  | [] => 0
  | d :: r => uptoBulk d + uptoBulkAll r
def uptoBulkEntries {H : Type} : List (Lit × DataW H) → Nat
  | [] => 0
  | x :: r => uptoBulkEntry x + uptoBulkEntries r
def uptoBulkEntry {H : Type} : Lit × DataW H → Nat
  | (.string bytes, d) => bytes.length + uptoBulk d + 1
  | (_, d) => uptoBulk d + 1
 end
def uptoSmall : (H : Type) → List (DataW H) → Bool := fun _ ds => decide (uptoBulkAll ds ≤ 1048576)
def OpenSpec.upto (s : _root_.Go.ChangeSpec) : _root_.Go.OpenSpec := { _root_.Go.OpenSpec.ofChange s with cond := some uptoSmall }

/-- 'laws.FnMachines', WHERE WHAT IT READS IS OF BULK AT MOST 1048576: true; the input reads as it did. -/
def fnMachinesUptoRow : OpenClaim := { program := "ytegponioggpkcaa", sum := "25e89651f1c93f54d7448cafd1979effcaa98d3ec12dee61a84031c8a181af69", func := "loop.example/g01357/laws.FnMachines", spec := "fnMachines", apart := false, narrowed := true }
def FnMachinesUptoSaid : Prop := fnMachinesUptoRow.holds Try.pinned (OpenSpec.upto fnMachinesSpec)

/-- 'laws.FnExactBestWord', WHERE WHAT IT READS IS OF BULK AT MOST 1048576: true; the input reads as it did. -/
def fnExactBestWordUptoRow : OpenClaim := { program := "ytegponioggpkcaa", sum := "25e89651f1c93f54d7448cafd1979effcaa98d3ec12dee61a84031c8a181af69", func := "loop.example/g01357/laws.FnExactBestWord", spec := "fnExactBestWord", unfollowed := true, recurses := true, apart := false, narrowed := true }
def FnExactBestWordUptoSaid : Prop := fnExactBestWordUptoRow.holds Try.pinned (OpenSpec.upto fnExactBestWordSpec)

/-- 'laws.FnExactTidyOf', WHERE WHAT IT READS IS OF BULK AT MOST 1048576: true; the input reads as it did. -/
def fnExactTidyOfUptoRow : OpenClaim := { program := "ytegponioggpkcaa", sum := "25e89651f1c93f54d7448cafd1979effcaa98d3ec12dee61a84031c8a181af69", func := "loop.example/g01357/laws.FnExactTidyOf", spec := "fnExactTidyOf", unfollowed := true, recurses := true, apart := false, narrowed := true }
def FnExactTidyOfUptoSaid : Prop := fnExactTidyOfUptoRow.holds Try.pinned (OpenSpec.upto fnExactTidyOfSpec)

/-- 'laws.FnExactTrimOf', WHERE WHAT IT READS IS OF BULK AT MOST 1048576: true; the input reads as it did. -/
def fnExactTrimOfUptoRow : OpenClaim := { program := "ytegponioggpkcaa", sum := "25e89651f1c93f54d7448cafd1979effcaa98d3ec12dee61a84031c8a181af69", func := "loop.example/g01357/laws.FnExactTrimOf", spec := "fnExactTrimOf", unfollowed := true, recurses := true, apart := false, narrowed := true }
def FnExactTrimOfUptoSaid : Prop := fnExactTrimOfUptoRow.holds Try.pinned (OpenSpec.upto fnExactTrimOfSpec)

end Rows
end Go.Proofs.Ytegponioggpkcaa
