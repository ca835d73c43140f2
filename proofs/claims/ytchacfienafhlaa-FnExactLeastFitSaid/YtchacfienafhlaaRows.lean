/-
  No cell of these rows narrows 'for every input' (looked for: loops, veiled, ifaces, maps, wideKeys, modest, calm, conditions, laid).
  DERIVED. THE GIVEN ROWS OF THIS SEAT. 4 by the template 'for every input the law returns true; each argument reads behind the call as it read before'; 0 by the template 'total and deterministic' (their statements: YtchacfienafhlaaTotals.lean).
  GIVEN WITH THE SEED: the statements are not yours to turn. If you find one false, say at which input.
  Laid BY PROGRAM, IN A SANDBOX (cutbox-rows.mjs): the forced cells as the released guide's own fill.sh prints them over the translation fe05a243e206d3c6… (all of the seat's roots in one cut). By AI agents, Wed Nov 11 2026. No macro, syntax, notation, axiom, sorry.
-/
import Derived.Test.YtchacfienafhlaaChecked
import GoSem.Claim
import GoSem.ClaimJoined
import GoSem.ClaimMapViews
import Derived.JoinedTies
import Derived.KernelRfl
namespace Go.Proofs.Ytchacfienafhlaa
/- THE CELL 'sum', in the pinned program and in every row, IS THE sha256 OF THE DUMP (.gsa) THAT YtchacfienafhlaaProg.lean LOADS. Nothing in Lean hashes anything: it is a label: what it is worth is what the hold of that sum in a sandbox is worth. -/
noncomputable def Try.pinned : Pinned := { name := "ytchacfienafhlaa", sum := "fe05a243e206d3c6558f52b20c0d52dc214c33c60148986c5e0df72dcce1facd", checked := Try.checked }
namespace Rows
def none {H : Type} : Left H := { results := [], args := [] }

/-- 'laws.FnExactAlignGain': WHATEVER THE INPUT: true; the input reads as it did. -/
def fnExactAlignGainSpec : ChangeSpec := { name := "fnExactAlignGain", fn := fun _ => fun
  | [d1, d2, d3, d4, d5, d6] => { results := [.lit (.bool true)], args := [d1, d2, d3, d4, d5, d6] }
  | _ => none }
def fnExactAlignGainRow : OpenClaim := { program := "ytchacfienafhlaa", sum := "fe05a243e206d3c6558f52b20c0d52dc214c33c60148986c5e0df72dcce1facd", func := "loop.example/g01357/laws.FnExactAlignGain", spec := "fnExactAlignGain", plainKeys := false, apart := false }
def FnExactAlignGainSaid : Prop := fnExactAlignGainRow.holds Try.pinned (OpenSpec.ofChange fnExactAlignGainSpec)

/-- ITS FALSE NEIGHBOUR: 'it returns false'. Refute it at one input. -/
def fnExactAlignGainWrong : ChangeSpec := { name := "fnExactAlignGain", fn := fun _ => fun
  | [d1, d2, d3, d4, d5, d6] => { results := [.lit (.bool false)], args := [d1, d2, d3, d4, d5, d6] }
  | _ => none }
def FnExactAlignGainWrongFalsely : Prop := fnExactAlignGainRow.holds Try.pinned (OpenSpec.ofChange fnExactAlignGainWrong)

/-- 'laws.FnExactLeastFit': WHATEVER THE INPUT: true; the input reads as it did. -/
def fnExactLeastFitSpec : ChangeSpec := { name := "fnExactLeastFit", fn := fun _ => fun
  | [d1, d2, d3] => { results := [.lit (.bool true)], args := [d1, d2, d3] }
  | _ => none }
def fnExactLeastFitRow : OpenClaim := { program := "ytchacfienafhlaa", sum := "fe05a243e206d3c6558f52b20c0d52dc214c33c60148986c5e0df72dcce1facd", func := "loop.example/g01357/laws.FnExactLeastFit", spec := "fnExactLeastFit", plainKeys := false, apart := false }
def FnExactLeastFitSaid : Prop := fnExactLeastFitRow.holds Try.pinned (OpenSpec.ofChange fnExactLeastFitSpec)

/-- ITS FALSE NEIGHBOUR: 'it returns false'. Refute it at one input. -/
def fnExactLeastFitWrong : ChangeSpec := { name := "fnExactLeastFit", fn := fun _ => fun
  | [d1, d2, d3] => { results := [.lit (.bool false)], args := [d1, d2, d3] }
  | _ => none }
def FnExactLeastFitWrongFalsely : Prop := fnExactLeastFitRow.holds Try.pinned (OpenSpec.ofChange fnExactLeastFitWrong)

/-- 'laws.FnExactReadsPair': WHATEVER THE INPUT: true; the input reads as it did. -/
def fnExactReadsPairSpec : ChangeSpec := { name := "fnExactReadsPair", fn := fun _ => fun
  | [d1, d2, d3] => { results := [.lit (.bool true)], args := [d1, d2, d3] }
  | _ => none }
def fnExactReadsPairRow : OpenClaim := { program := "ytchacfienafhlaa", sum := "fe05a243e206d3c6558f52b20c0d52dc214c33c60148986c5e0df72dcce1facd", func := "loop.example/g01357/laws.FnExactReadsPair", spec := "fnExactReadsPair", plainKeys := false, apart := false }
def FnExactReadsPairSaid : Prop := fnExactReadsPairRow.holds Try.pinned (OpenSpec.ofChange fnExactReadsPairSpec)

/-- ITS FALSE NEIGHBOUR: 'it returns false'. Refute it at one input. -/
def fnExactReadsPairWrong : ChangeSpec := { name := "fnExactReadsPair", fn := fun _ => fun
  | [d1, d2, d3] => { results := [.lit (.bool false)], args := [d1, d2, d3] }
  | _ => none }
def FnExactReadsPairWrongFalsely : Prop := fnExactReadsPairRow.holds Try.pinned (OpenSpec.ofChange fnExactReadsPairWrong)

/-- 'laws.FnExactWordsShared': WHATEVER THE INPUT: true; the input reads as it did. -/
def fnExactWordsSharedSpec : ChangeSpec := { name := "fnExactWordsShared", fn := fun _ => fun
  | [d1, d2, d3] => { results := [.lit (.bool true)], args := [d1, d2, d3] }
  | _ => none }
def fnExactWordsSharedRow : OpenClaim := { program := "ytchacfienafhlaa", sum := "fe05a243e206d3c6558f52b20c0d52dc214c33c60148986c5e0df72dcce1facd", func := "loop.example/g01357/laws.FnExactWordsShared", spec := "fnExactWordsShared", plainKeys := false, apart := false }
def FnExactWordsSharedSaid : Prop := fnExactWordsSharedRow.holds Try.pinned (OpenSpec.ofChange fnExactWordsSharedSpec)

/-- ITS FALSE NEIGHBOUR: 'it returns false'. Refute it at one input. -/
def fnExactWordsSharedWrong : ChangeSpec := { name := "fnExactWordsShared", fn := fun _ => fun
  | [d1, d2, d3] => { results := [.lit (.bool false)], args := [d1, d2, d3] }
  | _ => none }
def FnExactWordsSharedWrongFalsely : Prop := fnExactWordsSharedRow.holds Try.pinned (OpenSpec.ofChange fnExactWordsSharedWrong)

/- THE SECOND FORM. 'bulk': how many values and letters a reading holds, each counted each time it is reached (what is shared counts as often as it is met; a slice's spare places count too). A statement '..UptoSaid' is the law's where the arguments, and the package variables that the reading takes, are together of bulk at most 1048576: NARROWER than '..Said'. Prove '..Said' where nothing that the law and all that it calls make is longer than what came in: it says more and counts as full. Else prove '..UptoSaid'. A law counts once. -/
mutual
def uptoBulk {H : Type} : DataW H → Nat
  | .lit (.string bytes) => bytes.length + 1
  | .lit _ => 1
  | .nil => 1
  | .ptr d => uptoBulk d + 1
  | .slice elems spare => uptoBulkAll elems + uptoBulkAll spare + 1
  | .agg parts => uptoBulkAll parts + 1
  | .iface _ d => uptoBulk d + 1
  | .map entries => uptoBulkEntries entries + 1
  | .held _ => 1
def uptoBulkAll {H : Type} : List (DataW H) → Nat
  | [] => 0
  | d :: r => uptoBulk d + uptoBulkAll r
def uptoBulkEntries {H : Type} : List (Lit × DataW H) → Nat
  | [] => 0
  | x :: r => uptoBulkEntry x + uptoBulkEntries r
def uptoBulkEntry {H : Type} : Lit × DataW H → Nat
  | (.string bytes, d) => bytes.length + uptoBulk d + 1
  | (_, d) => uptoBulk d + 1
 end
def uptoSmall : (H : Type) → List (DataW H) → Bool := fun _ ds => decide (uptoBulkAll ds ≤ 1048576)
def OpenSpec.upto (s : _root_.Go.ChangeSpec) : _root_.Go.OpenSpec := { _root_.Go.OpenSpec.ofChange s with cond := some uptoSmall }

/-- 'laws.FnExactAlignGain', WHERE WHAT IT READS IS OF BULK AT MOST 1048576: true; the input reads as it did. -/
def fnExactAlignGainUptoRow : OpenClaim := { program := "ytchacfienafhlaa", sum := "fe05a243e206d3c6558f52b20c0d52dc214c33c60148986c5e0df72dcce1facd", func := "loop.example/g01357/laws.FnExactAlignGain", spec := "fnExactAlignGain", plainKeys := false, apart := false, narrowed := true }
def FnExactAlignGainUptoSaid : Prop := fnExactAlignGainUptoRow.holds Try.pinned (OpenSpec.upto fnExactAlignGainSpec)

/-- 'laws.FnExactLeastFit', WHERE WHAT IT READS IS OF BULK AT MOST 1048576: true; the input reads as it did. -/
def fnExactLeastFitUptoRow : OpenClaim := { program := "ytchacfienafhlaa", sum := "fe05a243e206d3c6558f52b20c0d52dc214c33c60148986c5e0df72dcce1facd", func := "loop.example/g01357/laws.FnExactLeastFit", spec := "fnExactLeastFit", plainKeys := false, apart := false, narrowed := true }
def FnExactLeastFitUptoSaid : Prop := fnExactLeastFitUptoRow.holds Try.pinned (OpenSpec.upto fnExactLeastFitSpec)

/-- 'laws.FnExactReadsPair', WHERE WHAT IT READS IS OF BULK AT MOST 1048576: true; the input reads as it did. -/
def fnExactReadsPairUptoRow : OpenClaim := { program := "ytchacfienafhlaa", sum := "fe05a243e206d3c6558f52b20c0d52dc214c33c60148986c5e0df72dcce1facd", func := "loop.example/g01357/laws.FnExactReadsPair", spec := "fnExactReadsPair", plainKeys := false, apart := false, narrowed := true }
def FnExactReadsPairUptoSaid : Prop := fnExactReadsPairUptoRow.holds Try.pinned (OpenSpec.upto fnExactReadsPairSpec)

/-- 'laws.FnExactWordsShared', WHERE WHAT IT READS IS OF BULK AT MOST 1048576: true; the input reads as it did. -/
def fnExactWordsSharedUptoRow : OpenClaim := { program := "ytchacfienafhlaa", sum := "fe05a243e206d3c6558f52b20c0d52dc214c33c60148986c5e0df72dcce1facd", func := "loop.example/g01357/laws.FnExactWordsShared", spec := "fnExactWordsShared", plainKeys := false, apart := false, narrowed := true }
def FnExactWordsSharedUptoSaid : Prop := fnExactWordsSharedUptoRow.holds Try.pinned (OpenSpec.upto fnExactWordsSharedSpec)

end Rows
end Go.Proofs.Ytchacfienafhlaa
