/-
  No cell of these rows narrows 'for every input' (looked for: loops, veiled, ifaces, maps, wideKeys, modest, calm, conditions, laid).
  DERIVED. THE GIVEN ROWS OF THIS SEAT. 12 by the template 'for every input the law returns true; each argument reads behind the call as it read before'; 0 by the template 'total and deterministic' (their statements: YtdpaldiomijijaaTotals.lean).
  GIVEN WITH THE SEED: the statements are not yours to turn. If you find one false, say at which input.
  Laid BY PROGRAM, IN A SANDBOX (cutbox-rows.mjs): the forced cells as the released guide's own fill.sh prints them over the translation eb57e8b3279fca03… (all of the seat's roots in one cut). By AI agents, Wed Nov 11 2026. No macro, syntax, notation, axiom, sorry.
-/
import Derived.Test.YtdpaldiomijijaaChecked
import GoSem.Claim
import GoSem.ClaimJoined
import GoSem.ClaimMapViews
import Derived.JoinedTies
import Derived.KernelRfl
namespace Go.Proofs.Ytdpaldiomijijaa
/- THE CELL 'sum', in the pinned program and in every row, IS THE sha256 OF THE DUMP (.gsa) THAT YtdpaldiomijijaaProg.lean LOADS. Nothing in Lean hashes anything: it is a label: what it is worth is what the hold of that sum in a sandbox is worth. -/
noncomputable def Try.pinned : Pinned := { name := "ytdpaldiomijijaa", sum := "eb57e8b3279fca03154625ee6371d619a32aaf973e0a4876ddc86a5512256d69", checked := Try.checked }
namespace Rows
def none {H : Type} : Left H := { results := [], args := [] }

/-- 'laws.FnExactIsText': WHATEVER THE INPUT: true; the input reads as it did. -/
def fnExactIsTextSpec : ChangeSpec := { name := "fnExactIsText", fn := fun _ => fun
  | [d] => { results := [.lit (.bool true)], args := [d] }
  | _ => none }
def fnExactIsTextRow : OpenClaim := { program := "ytdpaldiomijijaa", sum := "eb57e8b3279fca03154625ee6371d619a32aaf973e0a4876ddc86a5512256d69", func := "loop.example/g01357/laws.FnExactIsText", spec := "fnExactIsText", apart := false }
def FnExactIsTextSaid : Prop := fnExactIsTextRow.holds Try.pinned (OpenSpec.ofChange fnExactIsTextSpec)

/-- ITS FALSE NEIGHBOUR: 'it returns false'. Refute it at one input. -/
def fnExactIsTextWrong : ChangeSpec := { name := "fnExactIsText", fn := fun _ => fun
  | [d] => { results := [.lit (.bool false)], args := [d] }
  | _ => none }
def FnExactIsTextWrongFalsely : Prop := fnExactIsTextRow.holds Try.pinned (OpenSpec.ofChange fnExactIsTextWrong)

/-- 'laws.FnExactRomanOf': WHATEVER THE INPUT: true; the input reads as it did. -/
def fnExactRomanOfSpec : ChangeSpec := { name := "fnExactRomanOf", fn := fun _ => fun
  | [d] => { results := [.lit (.bool true)], args := [d] }
  | _ => none }
def fnExactRomanOfRow : OpenClaim := { program := "ytdpaldiomijijaa", sum := "eb57e8b3279fca03154625ee6371d619a32aaf973e0a4876ddc86a5512256d69", func := "loop.example/g01357/laws.FnExactRomanOf", spec := "fnExactRomanOf", apart := false }
def FnExactRomanOfSaid : Prop := fnExactRomanOfRow.holds Try.pinned (OpenSpec.ofChange fnExactRomanOfSpec)

/-- ITS FALSE NEIGHBOUR: 'it returns false'. Refute it at one input. -/
def fnExactRomanOfWrong : ChangeSpec := { name := "fnExactRomanOf", fn := fun _ => fun
  | [d] => { results := [.lit (.bool false)], args := [d] }
  | _ => none }
def FnExactRomanOfWrongFalsely : Prop := fnExactRomanOfRow.holds Try.pinned (OpenSpec.ofChange fnExactRomanOfWrong)

/-- 'laws.FnExactIsLongWord': WHATEVER THE INPUT: true; the input reads as it did. -/
def fnExactIsLongWordSpec : ChangeSpec := { name := "fnExactIsLongWord", fn := fun _ => fun
  | [d1, d2] => { results := [.lit (.bool true)], args := [d1, d2] }
  | _ => none }
def fnExactIsLongWordRow : OpenClaim := { program := "ytdpaldiomijijaa", sum := "eb57e8b3279fca03154625ee6371d619a32aaf973e0a4876ddc86a5512256d69", func := "loop.example/g01357/laws.FnExactIsLongWord", spec := "fnExactIsLongWord", apart := false }
def FnExactIsLongWordSaid : Prop := fnExactIsLongWordRow.holds Try.pinned (OpenSpec.ofChange fnExactIsLongWordSpec)

/-- ITS FALSE NEIGHBOUR: 'it returns false'. Refute it at one input. -/
def fnExactIsLongWordWrong : ChangeSpec := { name := "fnExactIsLongWord", fn := fun _ => fun
  | [d1, d2] => { results := [.lit (.bool false)], args := [d1, d2] }
  | _ => none }
def FnExactIsLongWordWrongFalsely : Prop := fnExactIsLongWordRow.holds Try.pinned (OpenSpec.ofChange fnExactIsLongWordWrong)

/-- 'laws.FnExactReadRoman': WHATEVER THE INPUT: true; the input reads as it did. -/
def fnExactReadRomanSpec : ChangeSpec := { name := "fnExactReadRoman", fn := fun _ => fun
  | [d] => { results := [.lit (.bool true)], args := [d] }
  | _ => none }
def fnExactReadRomanRow : OpenClaim := { program := "ytdpaldiomijijaa", sum := "eb57e8b3279fca03154625ee6371d619a32aaf973e0a4876ddc86a5512256d69", func := "loop.example/g01357/laws.FnExactReadRoman", spec := "fnExactReadRoman", apart := false }
def FnExactReadRomanSaid : Prop := fnExactReadRomanRow.holds Try.pinned (OpenSpec.ofChange fnExactReadRomanSpec)

/-- ITS FALSE NEIGHBOUR: 'it returns false'. Refute it at one input. -/
def fnExactReadRomanWrong : ChangeSpec := { name := "fnExactReadRoman", fn := fun _ => fun
  | [d] => { results := [.lit (.bool false)], args := [d] }
  | _ => none }
def FnExactReadRomanWrongFalsely : Prop := fnExactReadRomanRow.holds Try.pinned (OpenSpec.ofChange fnExactReadRomanWrong)

/-- 'laws.FnExactApplySteps': WHATEVER THE INPUT: true; the input reads as it did. -/
def fnExactApplyStepsSpec : ChangeSpec := { name := "fnExactApplySteps", fn := fun _ => fun
  | [d1, d2, d3] => { results := [.lit (.bool true)], args := [d1, d2, d3] }
  | _ => none }
def fnExactApplyStepsRow : OpenClaim := { program := "ytdpaldiomijijaa", sum := "eb57e8b3279fca03154625ee6371d619a32aaf973e0a4876ddc86a5512256d69", func := "loop.example/g01357/laws.FnExactApplySteps", spec := "fnExactApplySteps", inPlace := ["internal/bytealg.IndexByteString"], apart := false }
def FnExactApplyStepsSaid : Prop := fnExactApplyStepsRow.holds Try.pinned (OpenSpec.ofChange fnExactApplyStepsSpec)

/-- ITS FALSE NEIGHBOUR: 'it returns false'. Refute it at one input. -/
def fnExactApplyStepsWrong : ChangeSpec := { name := "fnExactApplySteps", fn := fun _ => fun
  | [d1, d2, d3] => { results := [.lit (.bool false)], args := [d1, d2, d3] }
  | _ => none }
def FnExactApplyStepsWrongFalsely : Prop := fnExactApplyStepsRow.holds Try.pinned (OpenSpec.ofChange fnExactApplyStepsWrong)

/-- 'laws.FnExactNumberWords': WHATEVER THE INPUT: true; the input reads as it did. -/
def fnExactNumberWordsSpec : ChangeSpec := { name := "fnExactNumberWords", fn := fun _ => fun
  | [d] => { results := [.lit (.bool true)], args := [d] }
  | _ => none }
def fnExactNumberWordsRow : OpenClaim := { program := "ytdpaldiomijijaa", sum := "eb57e8b3279fca03154625ee6371d619a32aaf973e0a4876ddc86a5512256d69", func := "loop.example/g01357/laws.FnExactNumberWords", spec := "fnExactNumberWords", recurses := true, apart := false }
def FnExactNumberWordsSaid : Prop := fnExactNumberWordsRow.holds Try.pinned (OpenSpec.ofChange fnExactNumberWordsSpec)

/-- ITS FALSE NEIGHBOUR: 'it returns false'. Refute it at one input. -/
def fnExactNumberWordsWrong : ChangeSpec := { name := "fnExactNumberWords", fn := fun _ => fun
  | [d] => { results := [.lit (.bool false)], args := [d] }
  | _ => none }
def FnExactNumberWordsWrongFalsely : Prop := fnExactNumberWordsRow.holds Try.pinned (OpenSpec.ofChange fnExactNumberWordsWrong)

/-- 'laws.FnExactSwapCost': WHATEVER THE INPUT: true; the input reads as it did. -/
def fnExactSwapCostSpec : ChangeSpec := { name := "fnExactSwapCost", fn := fun _ => fun
  | [d1, d2] => { results := [.lit (.bool true)], args := [d1, d2] }
  | _ => none }
def fnExactSwapCostRow : OpenClaim := { program := "ytdpaldiomijijaa", sum := "eb57e8b3279fca03154625ee6371d619a32aaf973e0a4876ddc86a5512256d69", func := "loop.example/g01357/laws.FnExactSwapCost", spec := "fnExactSwapCost", apart := false }
def FnExactSwapCostSaid : Prop := fnExactSwapCostRow.holds Try.pinned (OpenSpec.ofChange fnExactSwapCostSpec)

/-- ITS FALSE NEIGHBOUR: 'it returns false'. Refute it at one input. -/
def fnExactSwapCostWrong : ChangeSpec := { name := "fnExactSwapCost", fn := fun _ => fun
  | [d1, d2] => { results := [.lit (.bool false)], args := [d1, d2] }
  | _ => none }
def FnExactSwapCostWrongFalsely : Prop := fnExactSwapCostRow.holds Try.pinned (OpenSpec.ofChange fnExactSwapCostWrong)

/-- 'laws.FnExactSoundKey': WHATEVER THE INPUT: true; the input reads as it did. -/
def fnExactSoundKeySpec : ChangeSpec := { name := "fnExactSoundKey", fn := fun _ => fun
  | [d] => { results := [.lit (.bool true)], args := [d] }
  | _ => none }
def fnExactSoundKeyRow : OpenClaim := { program := "ytdpaldiomijijaa", sum := "eb57e8b3279fca03154625ee6371d619a32aaf973e0a4876ddc86a5512256d69", func := "loop.example/g01357/laws.FnExactSoundKey", spec := "fnExactSoundKey", inPlace := ["internal/bytealg.IndexByteString"], apart := false }
def FnExactSoundKeySaid : Prop := fnExactSoundKeyRow.holds Try.pinned (OpenSpec.ofChange fnExactSoundKeySpec)

/-- ITS FALSE NEIGHBOUR: 'it returns false'. Refute it at one input. -/
def fnExactSoundKeyWrong : ChangeSpec := { name := "fnExactSoundKey", fn := fun _ => fun
  | [d] => { results := [.lit (.bool false)], args := [d] }
  | _ => none }
def FnExactSoundKeyWrongFalsely : Prop := fnExactSoundKeyRow.holds Try.pinned (OpenSpec.ofChange fnExactSoundKeyWrong)

/-- 'laws.FnExactLocalGain': WHATEVER THE INPUT: true; the input reads as it did. -/
def fnExactLocalGainSpec : ChangeSpec := { name := "fnExactLocalGain", fn := fun _ => fun
  | [d1, d2, d3, d4, d5] => { results := [.lit (.bool true)], args := [d1, d2, d3, d4, d5] }
  | _ => none }
def fnExactLocalGainRow : OpenClaim := { program := "ytdpaldiomijijaa", sum := "eb57e8b3279fca03154625ee6371d619a32aaf973e0a4876ddc86a5512256d69", func := "loop.example/g01357/laws.FnExactLocalGain", spec := "fnExactLocalGain", apart := false }
def FnExactLocalGainSaid : Prop := fnExactLocalGainRow.holds Try.pinned (OpenSpec.ofChange fnExactLocalGainSpec)

/-- ITS FALSE NEIGHBOUR: 'it returns false'. Refute it at one input. -/
def fnExactLocalGainWrong : ChangeSpec := { name := "fnExactLocalGain", fn := fun _ => fun
  | [d1, d2, d3, d4, d5] => { results := [.lit (.bool false)], args := [d1, d2, d3, d4, d5] }
  | _ => none }
def FnExactLocalGainWrongFalsely : Prop := fnExactLocalGainRow.holds Try.pinned (OpenSpec.ofChange fnExactLocalGainWrong)

/-- 'laws.FnExactEditCost': WHATEVER THE INPUT: true; the input reads as it did. -/
def fnExactEditCostSpec : ChangeSpec := { name := "fnExactEditCost", fn := fun _ => fun
  | [d1, d2, d3, d4, d5] => { results := [.lit (.bool true)], args := [d1, d2, d3, d4, d5] }
  | _ => none }
def fnExactEditCostRow : OpenClaim := { program := "ytdpaldiomijijaa", sum := "eb57e8b3279fca03154625ee6371d619a32aaf973e0a4876ddc86a5512256d69", func := "loop.example/g01357/laws.FnExactEditCost", spec := "fnExactEditCost", apart := false }
def FnExactEditCostSaid : Prop := fnExactEditCostRow.holds Try.pinned (OpenSpec.ofChange fnExactEditCostSpec)

/-- ITS FALSE NEIGHBOUR: 'it returns false'. Refute it at one input. -/
def fnExactEditCostWrong : ChangeSpec := { name := "fnExactEditCost", fn := fun _ => fun
  | [d1, d2, d3, d4, d5] => { results := [.lit (.bool false)], args := [d1, d2, d3, d4, d5] }
  | _ => none }
def FnExactEditCostWrongFalsely : Prop := fnExactEditCostRow.holds Try.pinned (OpenSpec.ofChange fnExactEditCostWrong)

/-- 'laws.FnExactCommonText': WHATEVER THE INPUT: true; the input reads as it did. -/
def fnExactCommonTextSpec : ChangeSpec := { name := "fnExactCommonText", fn := fun _ => fun
  | [d1, d2] => { results := [.lit (.bool true)], args := [d1, d2] }
  | _ => none }
def fnExactCommonTextRow : OpenClaim := { program := "ytdpaldiomijijaa", sum := "eb57e8b3279fca03154625ee6371d619a32aaf973e0a4876ddc86a5512256d69", func := "loop.example/g01357/laws.FnExactCommonText", spec := "fnExactCommonText", apart := false }
def FnExactCommonTextSaid : Prop := fnExactCommonTextRow.holds Try.pinned (OpenSpec.ofChange fnExactCommonTextSpec)

/-- ITS FALSE NEIGHBOUR: 'it returns false'. Refute it at one input. -/
def fnExactCommonTextWrong : ChangeSpec := { name := "fnExactCommonText", fn := fun _ => fun
  | [d1, d2] => { results := [.lit (.bool false)], args := [d1, d2] }
  | _ => none }
def FnExactCommonTextWrongFalsely : Prop := fnExactCommonTextRow.holds Try.pinned (OpenSpec.ofChange fnExactCommonTextWrong)

/-- 'laws.FnExactEditSteps': WHATEVER THE INPUT: true; the input reads as it did. -/
def fnExactEditStepsSpec : ChangeSpec := { name := "fnExactEditSteps", fn := fun _ => fun
  | [d1, d2] => { results := [.lit (.bool true)], args := [d1, d2] }
  | _ => none }
def fnExactEditStepsRow : OpenClaim := { program := "ytdpaldiomijijaa", sum := "eb57e8b3279fca03154625ee6371d619a32aaf973e0a4876ddc86a5512256d69", func := "loop.example/g01357/laws.FnExactEditSteps", spec := "fnExactEditSteps", apart := false }
def FnExactEditStepsSaid : Prop := fnExactEditStepsRow.holds Try.pinned (OpenSpec.ofChange fnExactEditStepsSpec)

/-- ITS FALSE NEIGHBOUR: 'it returns false'. Refute it at one input. -/
def fnExactEditStepsWrong : ChangeSpec := { name := "fnExactEditSteps", fn := fun _ => fun
  | [d1, d2] => { results := [.lit (.bool false)], args := [d1, d2] }
  | _ => none }
def FnExactEditStepsWrongFalsely : Prop := fnExactEditStepsRow.holds Try.pinned (OpenSpec.ofChange fnExactEditStepsWrong)

/- THE SECOND FORM. 'bulk': how many values and letters a reading holds, each counted each time it is reached (what is shared counts as often as it is met; a slice's spare places count too). A statement '..UptoSaid' is the law's where the arguments, and the package variables that the reading takes, are together of bulk at most 1048576: NARROWER than '..Said'. Prove '..Said' where nothing that the law and all that it calls make is longer than what came in: it says more and counts as full. Else prove '..UptoSaid'. A law counts once. -/
mutual
def uptoBulk {H : Type} : DataW H → Nat
  | .lit (.string bytes) => bytes.length + 1
  | .lit _ => 1
  | .nil => 1
  | .ptr d => uptoBulk d + 1
  | .slice elems spare => uptoBulkAll elems + uptoBulkAll spare + 1
  | .agg parts => uptoBulkAll parts + 1
  | .iface _ d => uptoBulk d + 1
  | .map entries => uptoBulkEntries entries + 1
  | .held _ => 1
def uptoBulkAll {H : Type} : List (DataW H) → Nat
  | [] => 0
  | d :: r => uptoBulk d + uptoBulkAll r
def uptoBulkEntries {H : Type} : List (Lit × DataW H) → Nat
  | [] => 0
  | x :: r => uptoBulkEntry x + uptoBulkEntries r
def uptoBulkEntry {H : Type} : Lit × DataW H → Nat
  | (.string bytes, d) => bytes.length + uptoBulk d + 1
  | (_, d) => uptoBulk d + 1
 end
def uptoSmall : (H : Type) → List (DataW H) → Bool := fun _ ds => decide (uptoBulkAll ds ≤ 1048576)
def OpenSpec.upto (s : _root_.Go.ChangeSpec) : _root_.Go.OpenSpec := { _root_.Go.OpenSpec.ofChange s with cond := some uptoSmall }

/-- 'laws.FnExactIsText', WHERE WHAT IT READS IS OF BULK AT MOST 1048576: true; the input reads as it did. -/
def fnExactIsTextUptoRow : OpenClaim := { program := "ytdpaldiomijijaa", sum := "eb57e8b3279fca03154625ee6371d619a32aaf973e0a4876ddc86a5512256d69", func := "loop.example/g01357/laws.FnExactIsText", spec := "fnExactIsText", apart := false, narrowed := true }
def FnExactIsTextUptoSaid : Prop := fnExactIsTextUptoRow.holds Try.pinned (OpenSpec.upto fnExactIsTextSpec)

/-- 'laws.FnExactRomanOf', WHERE WHAT IT READS IS OF BULK AT MOST 1048576: true; the input reads as it did. -/
def fnExactRomanOfUptoRow : OpenClaim := { program := "ytdpaldiomijijaa", sum := "eb57e8b3279fca03154625ee6371d619a32aaf973e0a4876ddc86a5512256d69", func := "loop.example/g01357/laws.FnExactRomanOf", spec := "fnExactRomanOf", apart := false, narrowed := true }
def FnExactRomanOfUptoSaid : Prop := fnExactRomanOfUptoRow.holds Try.pinned (OpenSpec.upto fnExactRomanOfSpec)

/-- 'laws.FnExactIsLongWord', WHERE WHAT IT READS IS OF BULK AT MOST 1048576: true; the input reads as it did. -/
def fnExactIsLongWordUptoRow : OpenClaim := { program := "ytdpaldiomijijaa", sum := "eb57e8b3279fca03154625ee6371d619a32aaf973e0a4876ddc86a5512256d69", func := "loop.example/g01357/laws.FnExactIsLongWord", spec := "fnExactIsLongWord", apart := false, narrowed := true }
def FnExactIsLongWordUptoSaid : Prop := fnExactIsLongWordUptoRow.holds Try.pinned (OpenSpec.upto fnExactIsLongWordSpec)

/-- 'laws.FnExactReadRoman', WHERE WHAT IT READS IS OF BULK AT MOST 1048576: true; the input reads as it did. -/
def fnExactReadRomanUptoRow : OpenClaim := { program := "ytdpaldiomijijaa", sum := "eb57e8b3279fca03154625ee6371d619a32aaf973e0a4876ddc86a5512256d69", func := "loop.example/g01357/laws.FnExactReadRoman", spec := "fnExactReadRoman", apart := false, narrowed := true }
def FnExactReadRomanUptoSaid : Prop := fnExactReadRomanUptoRow.holds Try.pinned (OpenSpec.upto fnExactReadRomanSpec)

/-- 'laws.FnExactApplySteps', WHERE WHAT IT READS IS OF BULK AT MOST 1048576: true; the input reads as it did. -/
def fnExactApplyStepsUptoRow : OpenClaim := { program := "ytdpaldiomijijaa", sum := "eb57e8b3279fca03154625ee6371d619a32aaf973e0a4876ddc86a5512256d69", func := "loop.example/g01357/laws.FnExactApplySteps", spec := "fnExactApplySteps", inPlace := ["internal/bytealg.IndexByteString"], apart := false, narrowed := true }
def FnExactApplyStepsUptoSaid : Prop := fnExactApplyStepsUptoRow.holds Try.pinned (OpenSpec.upto fnExactApplyStepsSpec)

/-- 'laws.FnExactNumberWords', WHERE WHAT IT READS IS OF BULK AT MOST 1048576: true; the input reads as it did. -/
def fnExactNumberWordsUptoRow : OpenClaim := { program := "ytdpaldiomijijaa", sum := "eb57e8b3279fca03154625ee6371d619a32aaf973e0a4876ddc86a5512256d69", func := "loop.example/g01357/laws.FnExactNumberWords", spec := "fnExactNumberWords", recurses := true, apart := false, narrowed := true }
def FnExactNumberWordsUptoSaid : Prop := fnExactNumberWordsUptoRow.holds Try.pinned (OpenSpec.upto fnExactNumberWordsSpec)

/-- 'laws.FnExactSwapCost', WHERE WHAT IT READS IS OF BULK AT MOST 1048576: true; the input reads as it did. -/
def fnExactSwapCostUptoRow : OpenClaim := { program := "ytdpaldiomijijaa", sum := "eb57e8b3279fca03154625ee6371d619a32aaf973e0a4876ddc86a5512256d69", func := "loop.example/g01357/laws.FnExactSwapCost", spec := "fnExactSwapCost", apart := false, narrowed := true }
def FnExactSwapCostUptoSaid : Prop := fnExactSwapCostUptoRow.holds Try.pinned (OpenSpec.upto fnExactSwapCostSpec)

/-- 'laws.FnExactSoundKey', WHERE WHAT IT READS IS OF BULK AT MOST 1048576: true; the input reads as it did. -/
def fnExactSoundKeyUptoRow : OpenClaim := { program := "ytdpaldiomijijaa", sum := "eb57e8b3279fca03154625ee6371d619a32aaf973e0a4876ddc86a5512256d69", func := "loop.example/g01357/laws.FnExactSoundKey", spec := "fnExactSoundKey", inPlace := ["internal/bytealg.IndexByteString"], apart := false, narrowed := true }
def FnExactSoundKeyUptoSaid : Prop := fnExactSoundKeyUptoRow.holds Try.pinned (OpenSpec.upto fnExactSoundKeySpec)

/-- 'laws.FnExactLocalGain', WHERE WHAT IT READS IS OF BULK AT MOST 1048576: true; the input reads as it did. -/
def fnExactLocalGainUptoRow : OpenClaim := { program := "ytdpaldiomijijaa", sum := "eb57e8b3279fca03154625ee6371d619a32aaf973e0a4876ddc86a5512256d69", func := "loop.example/g01357/laws.FnExactLocalGain", spec := "fnExactLocalGain", apart := false, narrowed := true }
def FnExactLocalGainUptoSaid : Prop := fnExactLocalGainUptoRow.holds Try.pinned (OpenSpec.upto fnExactLocalGainSpec)

/-- 'laws.FnExactEditCost', WHERE WHAT IT READS IS OF BULK AT MOST 1048576: true; the input reads as it did. -/
def fnExactEditCostUptoRow : OpenClaim := { program := "ytdpaldiomijijaa", sum := "eb57e8b3279fca03154625ee6371d619a32aaf973e0a4876ddc86a5512256d69", func := "loop.example/g01357/laws.FnExactEditCost", spec := "fnExactEditCost", apart := false, narrowed := true }
def FnExactEditCostUptoSaid : Prop := fnExactEditCostUptoRow.holds Try.pinned (OpenSpec.upto fnExactEditCostSpec)

/-- 'laws.FnExactCommonText', WHERE WHAT IT READS IS OF BULK AT MOST 1048576: true; the input reads as it did. -/
def fnExactCommonTextUptoRow : OpenClaim := { program := "ytdpaldiomijijaa", sum := "eb57e8b3279fca03154625ee6371d619a32aaf973e0a4876ddc86a5512256d69", func := "loop.example/g01357/laws.FnExactCommonText", spec := "fnExactCommonText", apart := false, narrowed := true }
def FnExactCommonTextUptoSaid : Prop := fnExactCommonTextUptoRow.holds Try.pinned (OpenSpec.upto fnExactCommonTextSpec)

/-- 'laws.FnExactEditSteps', WHERE WHAT IT READS IS OF BULK AT MOST 1048576: true; the input reads as it did. -/
def fnExactEditStepsUptoRow : OpenClaim := { program := "ytdpaldiomijijaa", sum := "eb57e8b3279fca03154625ee6371d619a32aaf973e0a4876ddc86a5512256d69", func := "loop.example/g01357/laws.FnExactEditSteps", spec := "fnExactEditSteps", apart := false, narrowed := true }
def FnExactEditStepsUptoSaid : Prop := fnExactEditStepsUptoRow.holds Try.pinned (OpenSpec.upto fnExactEditStepsSpec)

end Rows
end Go.Proofs.Ytdpaldiomijijaa
