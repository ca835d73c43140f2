/-
  No cell of these rows narrows 'for every input' (looked for: loops, veiled, ifaces, maps, wideKeys, modest, calm, conditions, laid).
  DERIVED. THE GIVEN ROWS OF THIS SEAT. 11 by the template 'for every input the law returns true; each argument reads behind the call as it read before'; 0 by the template 'total and deterministic' (their statements: YtkgifbiaaaemnaaTotals.lean).
  GIVEN WITH THE SEED: the statements are not yours to turn. If you find one false, say at which input.
  Laid BY PROGRAM, IN A SANDBOX (cutbox-rows.mjs): the forced cells as the released guide's own fill.sh prints them over the translation 06717357689883f6… (all of the seat's roots in one cut). By AI agents, Wed Nov 11 2026. No macro, syntax, notation, axiom, sorry.
-/
import Derived.Test.YtkgifbiaaaemnaaChecked
import GoSem.Claim
import GoSem.ClaimJoined
import GoSem.ClaimMapViews
import Derived.JoinedTies
import Derived.KernelRfl
namespace Go.Proofs.Ytkgifbiaaaemnaa
/- THE CELL 'sum', in the pinned program and in every row, IS THE sha256 OF THE DUMP (.gsa) THAT YtkgifbiaaaemnaaProg.lean LOADS. Nothing in Lean hashes anything: it is a label: what it is worth is what the hold of that sum in a sandbox is worth. -/
noncomputable def Try.pinned : Pinned := { name := "ytkgifbiaaaemnaa", sum := "06717357689883f623b15e6d1444ee95701dd734c4b85d2eeea33b0c77925c1c", checked := Try.checked }
namespace Rows
def none {H : Type} : Left H := { results := [], args := [] }

/-- 'laws.FnExactSameModel': WHATEVER THE INPUT: true; the input reads as it did. -/
def fnExactSameModelSpec : ChangeSpec := { name := "fnExactSameModel", fn := fun _ => fun
  | [d1, d2] => { results := [.lit (.bool true)], args := [d1, d2] }
  | _ => none }
def fnExactSameModelRow : OpenClaim := { program := "ytkgifbiaaaemnaa", sum := "06717357689883f623b15e6d1444ee95701dd734c4b85d2eeea33b0c77925c1c", func := "loop.example/g01357/laws.FnExactSameModel", spec := "fnExactSameModel", inPlace := ["math.Float32bits", "math.Float64bits"], unfollowed := true, recurses := true, plainKeys := false, apart := false }
def FnExactSameModelSaid : Prop := fnExactSameModelRow.holds Try.pinned (OpenSpec.ofChange fnExactSameModelSpec)

/-- ITS FALSE NEIGHBOUR: 'it returns false'. Refute it at one input. -/
def fnExactSameModelWrong : ChangeSpec := { name := "fnExactSameModel", fn := fun _ => fun
  | [d1, d2] => { results := [.lit (.bool false)], args := [d1, d2] }
  | _ => none }
def FnExactSameModelWrongFalsely : Prop := fnExactSameModelRow.holds Try.pinned (OpenSpec.ofChange fnExactSameModelWrong)

/-- 'laws.FnExactValidModel': WHATEVER THE INPUT: true; the input reads as it did. -/
def fnExactValidModelSpec : ChangeSpec := { name := "fnExactValidModel", fn := fun _ => fun
  | [d] => { results := [.lit (.bool true)], args := [d] }
  | _ => none }
def fnExactValidModelRow : OpenClaim := { program := "ytkgifbiaaaemnaa", sum := "06717357689883f623b15e6d1444ee95701dd734c4b85d2eeea33b0c77925c1c", func := "loop.example/g01357/laws.FnExactValidModel", spec := "fnExactValidModel", plainKeys := false, apart := false }
def FnExactValidModelSaid : Prop := fnExactValidModelRow.holds Try.pinned (OpenSpec.ofChange fnExactValidModelSpec)

/-- ITS FALSE NEIGHBOUR: 'it returns false'. Refute it at one input. -/
def fnExactValidModelWrong : ChangeSpec := { name := "fnExactValidModel", fn := fun _ => fun
  | [d] => { results := [.lit (.bool false)], args := [d] }
  | _ => none }
def FnExactValidModelWrongFalsely : Prop := fnExactValidModelRow.holds Try.pinned (OpenSpec.ofChange fnExactValidModelWrong)

/-- 'laws.FnExactRingModel': WHATEVER THE INPUT: true; the input reads as it did. -/
def fnExactRingModelSpec : ChangeSpec := { name := "fnExactRingModel", fn := fun _ => fun
  | [d1, d2, d3, d4] => { results := [.lit (.bool true)], args := [d1, d2, d3, d4] }
  | _ => none }
def fnExactRingModelRow : OpenClaim := { program := "ytkgifbiaaaemnaa", sum := "06717357689883f623b15e6d1444ee95701dd734c4b85d2eeea33b0c77925c1c", func := "loop.example/g01357/laws.FnExactRingModel", spec := "fnExactRingModel", plainKeys := false, apart := false }
def FnExactRingModelSaid : Prop := fnExactRingModelRow.holds Try.pinned (OpenSpec.ofChange fnExactRingModelSpec)

/-- ITS FALSE NEIGHBOUR: 'it returns false'. Refute it at one input. -/
def fnExactRingModelWrong : ChangeSpec := { name := "fnExactRingModel", fn := fun _ => fun
  | [d1, d2, d3, d4] => { results := [.lit (.bool false)], args := [d1, d2, d3, d4] }
  | _ => none }
def FnExactRingModelWrongFalsely : Prop := fnExactRingModelRow.holds Try.pinned (OpenSpec.ofChange fnExactRingModelWrong)

/-- 'laws.FnExactEvenModel': WHATEVER THE INPUT: true; the input reads as it did. -/
def fnExactEvenModelSpec : ChangeSpec := { name := "fnExactEvenModel", fn := fun _ => fun
  | [d1, d2] => { results := [.lit (.bool true)], args := [d1, d2] }
  | _ => none }
def fnExactEvenModelRow : OpenClaim := { program := "ytkgifbiaaaemnaa", sum := "06717357689883f623b15e6d1444ee95701dd734c4b85d2eeea33b0c77925c1c", func := "loop.example/g01357/laws.FnExactEvenModel", spec := "fnExactEvenModel", plainKeys := false, apart := false }
def FnExactEvenModelSaid : Prop := fnExactEvenModelRow.holds Try.pinned (OpenSpec.ofChange fnExactEvenModelSpec)

/-- ITS FALSE NEIGHBOUR: 'it returns false'. Refute it at one input. -/
def fnExactEvenModelWrong : ChangeSpec := { name := "fnExactEvenModel", fn := fun _ => fun
  | [d1, d2] => { results := [.lit (.bool false)], args := [d1, d2] }
  | _ => none }
def FnExactEvenModelWrongFalsely : Prop := fnExactEvenModelRow.holds Try.pinned (OpenSpec.ofChange fnExactEvenModelWrong)

/-- 'laws.FnExactDrawnWord': WHATEVER THE INPUT: true; the input reads as it did. -/
def fnExactDrawnWordSpec : ChangeSpec := { name := "fnExactDrawnWord", fn := fun _ => fun
  | [d1, d2, d3] => { results := [.lit (.bool true)], args := [d1, d2, d3] }
  | _ => none }
def fnExactDrawnWordRow : OpenClaim := { program := "ytkgifbiaaaemnaa", sum := "06717357689883f623b15e6d1444ee95701dd734c4b85d2eeea33b0c77925c1c", func := "loop.example/g01357/laws.FnExactDrawnWord", spec := "fnExactDrawnWord", plainKeys := false, apart := false }
def FnExactDrawnWordSaid : Prop := fnExactDrawnWordRow.holds Try.pinned (OpenSpec.ofChange fnExactDrawnWordSpec)

/-- ITS FALSE NEIGHBOUR: 'it returns false'. Refute it at one input. -/
def fnExactDrawnWordWrong : ChangeSpec := { name := "fnExactDrawnWord", fn := fun _ => fun
  | [d1, d2, d3] => { results := [.lit (.bool false)], args := [d1, d2, d3] }
  | _ => none }
def FnExactDrawnWordWrongFalsely : Prop := fnExactDrawnWordRow.holds Try.pinned (OpenSpec.ofChange fnExactDrawnWordWrong)

/-- 'laws.FnExactRestOfModel': WHATEVER THE INPUT: true; the input reads as it did. -/
def fnExactRestOfModelSpec : ChangeSpec := { name := "fnExactRestOfModel", fn := fun _ => fun
  | [d1, d2, d3] => { results := [.lit (.bool true)], args := [d1, d2, d3] }
  | _ => none }
def fnExactRestOfModelRow : OpenClaim := { program := "ytkgifbiaaaemnaa", sum := "06717357689883f623b15e6d1444ee95701dd734c4b85d2eeea33b0c77925c1c", func := "loop.example/g01357/laws.FnExactRestOfModel", spec := "fnExactRestOfModel", unfollowed := true, recurses := true, plainKeys := false, apart := false }
def FnExactRestOfModelSaid : Prop := fnExactRestOfModelRow.holds Try.pinned (OpenSpec.ofChange fnExactRestOfModelSpec)

/-- ITS FALSE NEIGHBOUR: 'it returns false'. Refute it at one input. -/
def fnExactRestOfModelWrong : ChangeSpec := { name := "fnExactRestOfModel", fn := fun _ => fun
  | [d1, d2, d3] => { results := [.lit (.bool false)], args := [d1, d2, d3] }
  | _ => none }
def FnExactRestOfModelWrongFalsely : Prop := fnExactRestOfModelRow.holds Try.pinned (OpenSpec.ofChange fnExactRestOfModelWrong)

/-- 'laws.FnExactFitLetters': WHATEVER THE INPUT: true; the input reads as it did. -/
def fnExactFitLettersSpec : ChangeSpec := { name := "fnExactFitLetters", fn := fun _ => fun
  | [d1, d2, d3] => { results := [.lit (.bool true)], args := [d1, d2, d3] }
  | _ => none }
def fnExactFitLettersRow : OpenClaim := { program := "ytkgifbiaaaemnaa", sum := "06717357689883f623b15e6d1444ee95701dd734c4b85d2eeea33b0c77925c1c", func := "loop.example/g01357/laws.FnExactFitLetters", spec := "fnExactFitLetters", plainKeys := false, apart := false }
def FnExactFitLettersSaid : Prop := fnExactFitLettersRow.holds Try.pinned (OpenSpec.ofChange fnExactFitLettersSpec)

/-- ITS FALSE NEIGHBOUR: 'it returns false'. Refute it at one input. -/
def fnExactFitLettersWrong : ChangeSpec := { name := "fnExactFitLetters", fn := fun _ => fun
  | [d1, d2, d3] => { results := [.lit (.bool false)], args := [d1, d2, d3] }
  | _ => none }
def FnExactFitLettersWrongFalsely : Prop := fnExactFitLettersRow.holds Try.pinned (OpenSpec.ofChange fnExactFitLettersWrong)

/-- 'laws.FnExactLearnPlain': WHATEVER THE INPUT: true; the input reads as it did. -/
def fnExactLearnPlainSpec : ChangeSpec := { name := "fnExactLearnPlain", fn := fun _ => fun
  | [d] => { results := [.lit (.bool true)], args := [d] }
  | _ => none }
def fnExactLearnPlainRow : OpenClaim := { program := "ytkgifbiaaaemnaa", sum := "06717357689883f623b15e6d1444ee95701dd734c4b85d2eeea33b0c77925c1c", func := "loop.example/g01357/laws.FnExactLearnPlain", spec := "fnExactLearnPlain", unfollowed := true, recurses := true, plainKeys := false, apart := false }
def FnExactLearnPlainSaid : Prop := fnExactLearnPlainRow.holds Try.pinned (OpenSpec.ofChange fnExactLearnPlainSpec)

/-- ITS FALSE NEIGHBOUR: 'it returns false'. Refute it at one input. -/
def fnExactLearnPlainWrong : ChangeSpec := { name := "fnExactLearnPlain", fn := fun _ => fun
  | [d] => { results := [.lit (.bool false)], args := [d] }
  | _ => none }
def FnExactLearnPlainWrongFalsely : Prop := fnExactLearnPlainRow.holds Try.pinned (OpenSpec.ofChange fnExactLearnPlainWrong)

/-- 'laws.FnExactLeastFit': WHATEVER THE INPUT: true; the input reads as it did. -/
def fnExactLeastFitSpec : ChangeSpec := { name := "fnExactLeastFit", fn := fun _ => fun
  | [d1, d2, d3] => { results := [.lit (.bool true)], args := [d1, d2, d3] }
  | _ => none }
def fnExactLeastFitRow : OpenClaim := { program := "ytkgifbiaaaemnaa", sum := "06717357689883f623b15e6d1444ee95701dd734c4b85d2eeea33b0c77925c1c", func := "loop.example/g01357/laws.FnExactLeastFit", spec := "fnExactLeastFit", plainKeys := false, apart := false }
def FnExactLeastFitSaid : Prop := fnExactLeastFitRow.holds Try.pinned (OpenSpec.ofChange fnExactLeastFitSpec)

/-- ITS FALSE NEIGHBOUR: 'it returns false'. Refute it at one input. -/
def fnExactLeastFitWrong : ChangeSpec := { name := "fnExactLeastFit", fn := fun _ => fun
  | [d1, d2, d3] => { results := [.lit (.bool false)], args := [d1, d2, d3] }
  | _ => none }
def FnExactLeastFitWrongFalsely : Prop := fnExactLeastFitRow.holds Try.pinned (OpenSpec.ofChange fnExactLeastFitWrong)

/-- 'laws.FnExactWordsShared': WHATEVER THE INPUT: true; the input reads as it did. -/
def fnExactWordsSharedSpec : ChangeSpec := { name := "fnExactWordsShared", fn := fun _ => fun
  | [d1, d2, d3] => { results := [.lit (.bool true)], args := [d1, d2, d3] }
  | _ => none }
def fnExactWordsSharedRow : OpenClaim := { program := "ytkgifbiaaaemnaa", sum := "06717357689883f623b15e6d1444ee95701dd734c4b85d2eeea33b0c77925c1c", func := "loop.example/g01357/laws.FnExactWordsShared", spec := "fnExactWordsShared", plainKeys := false, apart := false }
def FnExactWordsSharedSaid : Prop := fnExactWordsSharedRow.holds Try.pinned (OpenSpec.ofChange fnExactWordsSharedSpec)

/-- ITS FALSE NEIGHBOUR: 'it returns false'. Refute it at one input. -/
def fnExactWordsSharedWrong : ChangeSpec := { name := "fnExactWordsShared", fn := fun _ => fun
  | [d1, d2, d3] => { results := [.lit (.bool false)], args := [d1, d2, d3] }
  | _ => none }
def FnExactWordsSharedWrongFalsely : Prop := fnExactWordsSharedRow.holds Try.pinned (OpenSpec.ofChange fnExactWordsSharedWrong)

/-- 'laws.FnExactJoinStates': WHATEVER THE INPUT: true; the input reads as it did. -/
def fnExactJoinStatesSpec : ChangeSpec := { name := "fnExactJoinStates", fn := fun _ => fun
  | [d1, d2, d3] => { results := [.lit (.bool true)], args := [d1, d2, d3] }
  | _ => none }
def fnExactJoinStatesRow : OpenClaim := { program := "ytkgifbiaaaemnaa", sum := "06717357689883f623b15e6d1444ee95701dd734c4b85d2eeea33b0c77925c1c", func := "loop.example/g01357/laws.FnExactJoinStates", spec := "fnExactJoinStates", unfollowed := true, recurses := true, plainKeys := false, apart := false }
def FnExactJoinStatesSaid : Prop := fnExactJoinStatesRow.holds Try.pinned (OpenSpec.ofChange fnExactJoinStatesSpec)

/-- ITS FALSE NEIGHBOUR: 'it returns false'. Refute it at one input. -/
def fnExactJoinStatesWrong : ChangeSpec := { name := "fnExactJoinStates", fn := fun _ => fun
  | [d1, d2, d3] => { results := [.lit (.bool false)], args := [d1, d2, d3] }
  | _ => none }
def FnExactJoinStatesWrongFalsely : Prop := fnExactJoinStatesRow.holds Try.pinned (OpenSpec.ofChange fnExactJoinStatesWrong)

/- THE SECOND FORM. 'bulk': how many values and letters a reading holds, each counted each time it is reached (what is shared counts as often as it is met; a slice's spare places count too). A statement '..UptoSaid' is the law's where the arguments, and the package variables that the reading takes, are together of bulk at most 1048576: NARROWER than '..Said'. Prove '..Said' where nothing that the law and all that it calls make is longer than what came in: it says more and counts as full. Else prove '..UptoSaid'. A law counts once. -/
mutual
def uptoBulk {H : Type} : DataW H → Nat
  | .lit (.string bytes) => bytes.length + 1
  | .lit _ => 1
  | .nil => 1
  | .ptr d => uptoBulk d + 1
  | .slice elems spare => uptoBulkAll elems + uptoBulkAll spare + 1
  | .agg parts => uptoBulkAll parts + 1
  | .iface _ d => uptoBulk d + 1
  | .map entries => uptoBulkEntries entries + 1
  | .held _ => 1
def uptoBulkAll {H : Type} : List (DataW H) → Nat
  | [] => 0
  | d :: r => uptoBulk d + uptoBulkAll r
def uptoBulkEntries {H : Type} : List (Lit × DataW H) → Nat
  | [] => 0
  | x :: r => uptoBulkEntry x + uptoBulkEntries r
def uptoBulkEntry {H : Type} : Lit × DataW H → Nat
  | (.string bytes, d) => bytes.length + uptoBulk d + 1
  | (_, d) => uptoBulk d + 1
 end
def uptoSmall : (H : Type) → List (DataW H) → Bool := fun _ ds => decide (uptoBulkAll ds ≤ 1048576)
def OpenSpec.upto (s : _root_.Go.ChangeSpec) : _root_.Go.OpenSpec := { _root_.Go.OpenSpec.ofChange s with cond := some uptoSmall }

/-- 'laws.FnExactSameModel', WHERE WHAT IT READS IS OF BULK AT MOST 1048576: true; the input reads as it did. -/
def fnExactSameModelUptoRow : OpenClaim := { program := "ytkgifbiaaaemnaa", sum := "06717357689883f623b15e6d1444ee95701dd734c4b85d2eeea33b0c77925c1c", func := "loop.example/g01357/laws.FnExactSameModel", spec := "fnExactSameModel", inPlace := ["math.Float32bits", "math.Float64bits"], unfollowed := true, recurses := true, plainKeys := false, apart := false, narrowed := true }
def FnExactSameModelUptoSaid : Prop := fnExactSameModelUptoRow.holds Try.pinned (OpenSpec.upto fnExactSameModelSpec)

/-- 'laws.FnExactValidModel', WHERE WHAT IT READS IS OF BULK AT MOST 1048576: true; the input reads as it did. -/
def fnExactValidModelUptoRow : OpenClaim := { program := "ytkgifbiaaaemnaa", sum := "06717357689883f623b15e6d1444ee95701dd734c4b85d2eeea33b0c77925c1c", func := "loop.example/g01357/laws.FnExactValidModel", spec := "fnExactValidModel", plainKeys := false, apart := false, narrowed := true }
def FnExactValidModelUptoSaid : Prop := fnExactValidModelUptoRow.holds Try.pinned (OpenSpec.upto fnExactValidModelSpec)

/-- 'laws.FnExactRingModel', WHERE WHAT IT READS IS OF BULK AT MOST 1048576: true; the input reads as it did. -/
def fnExactRingModelUptoRow : OpenClaim := { program := "ytkgifbiaaaemnaa", sum := "06717357689883f623b15e6d1444ee95701dd734c4b85d2eeea33b0c77925c1c", func := "loop.example/g01357/laws.FnExactRingModel", spec := "fnExactRingModel", plainKeys := false, apart := false, narrowed := true }
def FnExactRingModelUptoSaid : Prop := fnExactRingModelUptoRow.holds Try.pinned (OpenSpec.upto fnExactRingModelSpec)

/-- 'laws.FnExactEvenModel', WHERE WHAT IT READS IS OF BULK AT MOST 1048576: true; the input reads as it did. -/
def fnExactEvenModelUptoRow : OpenClaim := { program := "ytkgifbiaaaemnaa", sum := "06717357689883f623b15e6d1444ee95701dd734c4b85d2eeea33b0c77925c1c", func := "loop.example/g01357/laws.FnExactEvenModel", spec := "fnExactEvenModel", plainKeys := false, apart := false, narrowed := true }
def FnExactEvenModelUptoSaid : Prop := fnExactEvenModelUptoRow.holds Try.pinned (OpenSpec.upto fnExactEvenModelSpec)

/-- 'laws.FnExactDrawnWord', WHERE WHAT IT READS IS OF BULK AT MOST 1048576: true; the input reads as it did. -/
def fnExactDrawnWordUptoRow : OpenClaim := { program := "ytkgifbiaaaemnaa", sum := "06717357689883f623b15e6d1444ee95701dd734c4b85d2eeea33b0c77925c1c", func := "loop.example/g01357/laws.FnExactDrawnWord", spec := "fnExactDrawnWord", plainKeys := false, apart := false, narrowed := true }
def FnExactDrawnWordUptoSaid : Prop := fnExactDrawnWordUptoRow.holds Try.pinned (OpenSpec.upto fnExactDrawnWordSpec)

/-- 'laws.FnExactRestOfModel', WHERE WHAT IT READS IS OF BULK AT MOST 1048576: true; the input reads as it did. -/
def fnExactRestOfModelUptoRow : OpenClaim := { program := "ytkgifbiaaaemnaa", sum := "06717357689883f623b15e6d1444ee95701dd734c4b85d2eeea33b0c77925c1c", func := "loop.example/g01357/laws.FnExactRestOfModel", spec := "fnExactRestOfModel", unfollowed := true, recurses := true, plainKeys := false, apart := false, narrowed := true }
def FnExactRestOfModelUptoSaid : Prop := fnExactRestOfModelUptoRow.holds Try.pinned (OpenSpec.upto fnExactRestOfModelSpec)

/-- 'laws.FnExactFitLetters', WHERE WHAT IT READS IS OF BULK AT MOST 1048576: true; the input reads as it did. -/
def fnExactFitLettersUptoRow : OpenClaim := { program := "ytkgifbiaaaemnaa", sum := "06717357689883f623b15e6d1444ee95701dd734c4b85d2eeea33b0c77925c1c", func := "loop.example/g01357/laws.FnExactFitLetters", spec := "fnExactFitLetters", plainKeys := false, apart := false, narrowed := true }
def FnExactFitLettersUptoSaid : Prop := fnExactFitLettersUptoRow.holds Try.pinned (OpenSpec.upto fnExactFitLettersSpec)

/-- 'laws.FnExactLearnPlain', WHERE WHAT IT READS IS OF BULK AT MOST 1048576: true; the input reads as it did. -/
def fnExactLearnPlainUptoRow : OpenClaim := { program := "ytkgifbiaaaemnaa", sum := "06717357689883f623b15e6d1444ee95701dd734c4b85d2eeea33b0c77925c1c", func := "loop.example/g01357/laws.FnExactLearnPlain", spec := "fnExactLearnPlain", unfollowed := true, recurses := true, plainKeys := false, apart := false, narrowed := true }
def FnExactLearnPlainUptoSaid : Prop := fnExactLearnPlainUptoRow.holds Try.pinned (OpenSpec.upto fnExactLearnPlainSpec)

/-- 'laws.FnExactLeastFit', WHERE WHAT IT READS IS OF BULK AT MOST 1048576: true; the input reads as it did. -/
def fnExactLeastFitUptoRow : OpenClaim := { program := "ytkgifbiaaaemnaa", sum := "06717357689883f623b15e6d1444ee95701dd734c4b85d2eeea33b0c77925c1c", func := "loop.example/g01357/laws.FnExactLeastFit", spec := "fnExactLeastFit", plainKeys := false, apart := false, narrowed := true }
def FnExactLeastFitUptoSaid : Prop := fnExactLeastFitUptoRow.holds Try.pinned (OpenSpec.upto fnExactLeastFitSpec)

/-- 'laws.FnExactWordsShared', WHERE WHAT IT READS IS OF BULK AT MOST 1048576: true; the input reads as it did. -/
def fnExactWordsSharedUptoRow : OpenClaim := { program := "ytkgifbiaaaemnaa", sum := "06717357689883f623b15e6d1444ee95701dd734c4b85d2eeea33b0c77925c1c", func := "loop.example/g01357/laws.FnExactWordsShared", spec := "fnExactWordsShared", plainKeys := false, apart := false, narrowed := true }
def FnExactWordsSharedUptoSaid : Prop := fnExactWordsSharedUptoRow.holds Try.pinned (OpenSpec.upto fnExactWordsSharedSpec)

/-- 'laws.FnExactJoinStates', WHERE WHAT IT READS IS OF BULK AT MOST 1048576: true; the input reads as it did. -/
def fnExactJoinStatesUptoRow : OpenClaim := { program := "ytkgifbiaaaemnaa", sum := "06717357689883f623b15e6d1444ee95701dd734c4b85d2eeea33b0c77925c1c", func := "loop.example/g01357/laws.FnExactJoinStates", spec := "fnExactJoinStates", unfollowed := true, recurses := true, plainKeys := false, apart := false, narrowed := true }
def FnExactJoinStatesUptoSaid : Prop := fnExactJoinStatesUptoRow.holds Try.pinned (OpenSpec.upto fnExactJoinStatesSpec)

end Rows
end Go.Proofs.Ytkgifbiaaaemnaa
