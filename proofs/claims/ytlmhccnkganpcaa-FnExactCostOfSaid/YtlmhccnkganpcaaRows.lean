/-
  No cell of these rows narrows 'for every input' (looked for: loops, veiled, ifaces, maps, wideKeys, modest, calm, conditions, laid).
  DERIVED. THE GIVEN ROWS OF THIS SEAT. 12 by the template 'for every input the law returns true; each argument reads behind the call as it read before'; 0 by the template 'total and deterministic' (their statements: YtlmhccnkganpcaaTotals.lean).
  GIVEN WITH THE SEED: the statements are not yours to turn. If you find one false, say at which input.
  Laid BY PROGRAM, IN A SANDBOX (cutbox-rows.mjs): the forced cells as the released guide's own fill.sh prints them over the translation 6f81b6e179ce7657… (all of the seat's roots in one cut). By AI agents, Wed Nov 11 2026. No macro, syntax, notation, axiom, sorry.
-/
import Derived.Test.YtlmhccnkganpcaaChecked
import GoSem.Claim
import GoSem.ClaimJoined
import GoSem.ClaimMapViews
import Derived.JoinedTies
import Derived.KernelRfl
namespace Go.Proofs.Ytlmhccnkganpcaa
/- THE CELL 'sum', in the pinned program and in every row, IS THE sha256 OF THE DUMP (.gsa) THAT YtlmhccnkganpcaaProg.lean LOADS. Nothing in Lean hashes anything: it is a label: what it is worth is what the hold of that sum in a sandbox is worth. -/
noncomputable def Try.pinned : Pinned := { name := "ytlmhccnkganpcaa", sum := "6f81b6e179ce7657918ba98978d61c423a7c5cb211aa2b54d6781ed394302389", checked := Try.checked }
namespace Rows
def none {H : Type} : Left H := { results := [], args := [] }

/-- 'laws.FnExactEitherOf': WHATEVER THE INPUT: true; the input reads as it did. -/
def fnExactEitherOfSpec : ChangeSpec := { name := "fnExactEitherOf", fn := fun _ => fun
  | [d1, d2] => { results := [.lit (.bool true)], args := [d1, d2] }
  | _ => none }
def fnExactEitherOfRow : OpenClaim := { program := "ytlmhccnkganpcaa", sum := "6f81b6e179ce7657918ba98978d61c423a7c5cb211aa2b54d6781ed394302389", func := "loop.example/g01357/laws.FnExactEitherOf", spec := "fnExactEitherOf", apart := false }
def FnExactEitherOfSaid : Prop := fnExactEitherOfRow.holds Try.pinned (OpenSpec.ofChange fnExactEitherOfSpec)

/-- ITS FALSE NEIGHBOUR: 'it returns false'. Refute it at one input. -/
def fnExactEitherOfWrong : ChangeSpec := { name := "fnExactEitherOf", fn := fun _ => fun
  | [d1, d2] => { results := [.lit (.bool false)], args := [d1, d2] }
  | _ => none }
def FnExactEitherOfWrongFalsely : Prop := fnExactEitherOfRow.holds Try.pinned (OpenSpec.ofChange fnExactEitherOfWrong)

/-- 'laws.FnExactRepeatOf': WHATEVER THE INPUT: true; the input reads as it did. -/
def fnExactRepeatOfSpec : ChangeSpec := { name := "fnExactRepeatOf", fn := fun _ => fun
  | [d] => { results := [.lit (.bool true)], args := [d] }
  | _ => none }
def fnExactRepeatOfRow : OpenClaim := { program := "ytlmhccnkganpcaa", sum := "6f81b6e179ce7657918ba98978d61c423a7c5cb211aa2b54d6781ed394302389", func := "loop.example/g01357/laws.FnExactRepeatOf", spec := "fnExactRepeatOf", apart := false }
def FnExactRepeatOfSaid : Prop := fnExactRepeatOfRow.holds Try.pinned (OpenSpec.ofChange fnExactRepeatOfSpec)

/-- ITS FALSE NEIGHBOUR: 'it returns false'. Refute it at one input. -/
def fnExactRepeatOfWrong : ChangeSpec := { name := "fnExactRepeatOf", fn := fun _ => fun
  | [d] => { results := [.lit (.bool false)], args := [d] }
  | _ => none }
def FnExactRepeatOfWrongFalsely : Prop := fnExactRepeatOfRow.holds Try.pinned (OpenSpec.ofChange fnExactRepeatOfWrong)

/-- 'laws.FnExactJoinedOf': WHATEVER THE INPUT: true; the input reads as it did. -/
def fnExactJoinedOfSpec : ChangeSpec := { name := "fnExactJoinedOf", fn := fun _ => fun
  | [d1, d2] => { results := [.lit (.bool true)], args := [d1, d2] }
  | _ => none }
def fnExactJoinedOfRow : OpenClaim := { program := "ytlmhccnkganpcaa", sum := "6f81b6e179ce7657918ba98978d61c423a7c5cb211aa2b54d6781ed394302389", func := "loop.example/g01357/laws.FnExactJoinedOf", spec := "fnExactJoinedOf", apart := false }
def FnExactJoinedOfSaid : Prop := fnExactJoinedOfRow.holds Try.pinned (OpenSpec.ofChange fnExactJoinedOfSpec)

/-- ITS FALSE NEIGHBOUR: 'it returns false'. Refute it at one input. -/
def fnExactJoinedOfWrong : ChangeSpec := { name := "fnExactJoinedOf", fn := fun _ => fun
  | [d1, d2] => { results := [.lit (.bool false)], args := [d1, d2] }
  | _ => none }
def FnExactJoinedOfWrongFalsely : Prop := fnExactJoinedOfRow.holds Try.pinned (OpenSpec.ofChange fnExactJoinedOfWrong)

/-- 'laws.FnExactCostOf': WHATEVER THE INPUT: true; the input reads as it did. -/
def fnExactCostOfSpec : ChangeSpec := { name := "fnExactCostOf", fn := fun _ => fun
  | [d1, d2] => { results := [.lit (.bool true)], args := [d1, d2] }
  | _ => none }
def fnExactCostOfRow : OpenClaim := { program := "ytlmhccnkganpcaa", sum := "6f81b6e179ce7657918ba98978d61c423a7c5cb211aa2b54d6781ed394302389", func := "loop.example/g01357/laws.FnExactCostOf", spec := "fnExactCostOf", apart := false }
def FnExactCostOfSaid : Prop := fnExactCostOfRow.holds Try.pinned (OpenSpec.ofChange fnExactCostOfSpec)

/-- ITS FALSE NEIGHBOUR: 'it returns false'. Refute it at one input. -/
def fnExactCostOfWrong : ChangeSpec := { name := "fnExactCostOf", fn := fun _ => fun
  | [d1, d2] => { results := [.lit (.bool false)], args := [d1, d2] }
  | _ => none }
def FnExactCostOfWrongFalsely : Prop := fnExactCostOfRow.holds Try.pinned (OpenSpec.ofChange fnExactCostOfWrong)

/-- 'laws.FnExactPlainOf': WHATEVER THE INPUT: true; the input reads as it did. -/
def fnExactPlainOfSpec : ChangeSpec := { name := "fnExactPlainOf", fn := fun _ => fun
  | [d] => { results := [.lit (.bool true)], args := [d] }
  | _ => none }
def fnExactPlainOfRow : OpenClaim := { program := "ytlmhccnkganpcaa", sum := "6f81b6e179ce7657918ba98978d61c423a7c5cb211aa2b54d6781ed394302389", func := "loop.example/g01357/laws.FnExactPlainOf", spec := "fnExactPlainOf", unfollowed := true, recurses := true, apart := false }
def FnExactPlainOfSaid : Prop := fnExactPlainOfRow.holds Try.pinned (OpenSpec.ofChange fnExactPlainOfSpec)

/-- ITS FALSE NEIGHBOUR: 'it returns false'. Refute it at one input. -/
def fnExactPlainOfWrong : ChangeSpec := { name := "fnExactPlainOf", fn := fun _ => fun
  | [d] => { results := [.lit (.bool false)], args := [d] }
  | _ => none }
def FnExactPlainOfWrongFalsely : Prop := fnExactPlainOfRow.holds Try.pinned (OpenSpec.ofChange fnExactPlainOfWrong)

/-- 'laws.FnExactBestWord': WHATEVER THE INPUT: true; the input reads as it did. -/
def fnExactBestWordSpec : ChangeSpec := { name := "fnExactBestWord", fn := fun _ => fun
  | [d] => { results := [.lit (.bool true)], args := [d] }
  | _ => none }
def fnExactBestWordRow : OpenClaim := { program := "ytlmhccnkganpcaa", sum := "6f81b6e179ce7657918ba98978d61c423a7c5cb211aa2b54d6781ed394302389", func := "loop.example/g01357/laws.FnExactBestWord", spec := "fnExactBestWord", unfollowed := true, recurses := true, apart := false }
def FnExactBestWordSaid : Prop := fnExactBestWordRow.holds Try.pinned (OpenSpec.ofChange fnExactBestWordSpec)

/-- ITS FALSE NEIGHBOUR: 'it returns false'. Refute it at one input. -/
def fnExactBestWordWrong : ChangeSpec := { name := "fnExactBestWord", fn := fun _ => fun
  | [d] => { results := [.lit (.bool false)], args := [d] }
  | _ => none }
def FnExactBestWordWrongFalsely : Prop := fnExactBestWordRow.holds Try.pinned (OpenSpec.ofChange fnExactBestWordWrong)

/-- 'laws.FnExactBestWords': WHATEVER THE INPUT: true; the input reads as it did. -/
def fnExactBestWordsSpec : ChangeSpec := { name := "fnExactBestWords", fn := fun _ => fun
  | [d1, d2, d3] => { results := [.lit (.bool true)], args := [d1, d2, d3] }
  | _ => none }
def fnExactBestWordsRow : OpenClaim := { program := "ytlmhccnkganpcaa", sum := "6f81b6e179ce7657918ba98978d61c423a7c5cb211aa2b54d6781ed394302389", func := "loop.example/g01357/laws.FnExactBestWords", spec := "fnExactBestWords", unfollowed := true, recurses := true, apart := false }
def FnExactBestWordsSaid : Prop := fnExactBestWordsRow.holds Try.pinned (OpenSpec.ofChange fnExactBestWordsSpec)

/-- ITS FALSE NEIGHBOUR: 'it returns false'. Refute it at one input. -/
def fnExactBestWordsWrong : ChangeSpec := { name := "fnExactBestWords", fn := fun _ => fun
  | [d1, d2, d3] => { results := [.lit (.bool false)], args := [d1, d2, d3] }
  | _ => none }
def FnExactBestWordsWrongFalsely : Prop := fnExactBestWordsRow.holds Try.pinned (OpenSpec.ofChange fnExactBestWordsWrong)

/-- 'laws.FnExactTidyOf': WHATEVER THE INPUT: true; the input reads as it did. -/
def fnExactTidyOfSpec : ChangeSpec := { name := "fnExactTidyOf", fn := fun _ => fun
  | [d] => { results := [.lit (.bool true)], args := [d] }
  | _ => none }
def fnExactTidyOfRow : OpenClaim := { program := "ytlmhccnkganpcaa", sum := "6f81b6e179ce7657918ba98978d61c423a7c5cb211aa2b54d6781ed394302389", func := "loop.example/g01357/laws.FnExactTidyOf", spec := "fnExactTidyOf", unfollowed := true, recurses := true, apart := false }
def FnExactTidyOfSaid : Prop := fnExactTidyOfRow.holds Try.pinned (OpenSpec.ofChange fnExactTidyOfSpec)

/-- ITS FALSE NEIGHBOUR: 'it returns false'. Refute it at one input. -/
def fnExactTidyOfWrong : ChangeSpec := { name := "fnExactTidyOf", fn := fun _ => fun
  | [d] => { results := [.lit (.bool false)], args := [d] }
  | _ => none }
def FnExactTidyOfWrongFalsely : Prop := fnExactTidyOfRow.holds Try.pinned (OpenSpec.ofChange fnExactTidyOfWrong)

/-- 'laws.FnExactTrimOf': WHATEVER THE INPUT: true; the input reads as it did. -/
def fnExactTrimOfSpec : ChangeSpec := { name := "fnExactTrimOf", fn := fun _ => fun
  | [d] => { results := [.lit (.bool true)], args := [d] }
  | _ => none }
def fnExactTrimOfRow : OpenClaim := { program := "ytlmhccnkganpcaa", sum := "6f81b6e179ce7657918ba98978d61c423a7c5cb211aa2b54d6781ed394302389", func := "loop.example/g01357/laws.FnExactTrimOf", spec := "fnExactTrimOf", unfollowed := true, recurses := true, apart := false }
def FnExactTrimOfSaid : Prop := fnExactTrimOfRow.holds Try.pinned (OpenSpec.ofChange fnExactTrimOfSpec)

/-- ITS FALSE NEIGHBOUR: 'it returns false'. Refute it at one input. -/
def fnExactTrimOfWrong : ChangeSpec := { name := "fnExactTrimOf", fn := fun _ => fun
  | [d] => { results := [.lit (.bool false)], args := [d] }
  | _ => none }
def FnExactTrimOfWrongFalsely : Prop := fnExactTrimOfRow.holds Try.pinned (OpenSpec.ofChange fnExactTrimOfWrong)

/-- 'laws.FnExactWithoutEmpty': WHATEVER THE INPUT: true; the input reads as it did. -/
def fnExactWithoutEmptySpec : ChangeSpec := { name := "fnExactWithoutEmpty", fn := fun _ => fun
  | [d] => { results := [.lit (.bool true)], args := [d] }
  | _ => none }
def fnExactWithoutEmptyRow : OpenClaim := { program := "ytlmhccnkganpcaa", sum := "6f81b6e179ce7657918ba98978d61c423a7c5cb211aa2b54d6781ed394302389", func := "loop.example/g01357/laws.FnExactWithoutEmpty", spec := "fnExactWithoutEmpty", unfollowed := true, recurses := true, apart := false }
def FnExactWithoutEmptySaid : Prop := fnExactWithoutEmptyRow.holds Try.pinned (OpenSpec.ofChange fnExactWithoutEmptySpec)

/-- ITS FALSE NEIGHBOUR: 'it returns false'. Refute it at one input. -/
def fnExactWithoutEmptyWrong : ChangeSpec := { name := "fnExactWithoutEmpty", fn := fun _ => fun
  | [d] => { results := [.lit (.bool false)], args := [d] }
  | _ => none }
def FnExactWithoutEmptyWrongFalsely : Prop := fnExactWithoutEmptyRow.holds Try.pinned (OpenSpec.ofChange fnExactWithoutEmptyWrong)

/-- 'laws.FnMachines': WHATEVER THE INPUT: true; the input reads as it did. -/
def fnMachinesSpec : ChangeSpec := { name := "fnMachines", fn := fun _ => fun
  | [d1, d2] => { results := [.lit (.bool true)], args := [d1, d2] }
  | _ => none }
def fnMachinesRow : OpenClaim := { program := "ytlmhccnkganpcaa", sum := "6f81b6e179ce7657918ba98978d61c423a7c5cb211aa2b54d6781ed394302389", func := "loop.example/g01357/laws.FnMachines", spec := "fnMachines", apart := false }
def FnMachinesSaid : Prop := fnMachinesRow.holds Try.pinned (OpenSpec.ofChange fnMachinesSpec)

/-- ITS FALSE NEIGHBOUR: 'it returns false'. Refute it at one input. -/
def fnMachinesWrong : ChangeSpec := { name := "fnMachines", fn := fun _ => fun
  | [d1, d2] => { results := [.lit (.bool false)], args := [d1, d2] }
  | _ => none }
def FnMachinesWrongFalsely : Prop := fnMachinesRow.holds Try.pinned (OpenSpec.ofChange fnMachinesWrong)

/-- 'laws.FnBest': WHATEVER THE INPUT: true; the input reads as it did. -/
def fnBestSpec : ChangeSpec := { name := "fnBest", fn := fun _ => fun
  | [d1, d2] => { results := [.lit (.bool true)], args := [d1, d2] }
  | _ => none }
def fnBestRow : OpenClaim := { program := "ytlmhccnkganpcaa", sum := "6f81b6e179ce7657918ba98978d61c423a7c5cb211aa2b54d6781ed394302389", func := "loop.example/g01357/laws.FnBest", spec := "fnBest", unfollowed := true, recurses := true, apart := false }
def FnBestSaid : Prop := fnBestRow.holds Try.pinned (OpenSpec.ofChange fnBestSpec)

/-- ITS FALSE NEIGHBOUR: 'it returns false'. Refute it at one input. -/
def fnBestWrong : ChangeSpec := { name := "fnBest", fn := fun _ => fun
  | [d1, d2] => { results := [.lit (.bool false)], args := [d1, d2] }
  | _ => none }
def FnBestWrongFalsely : Prop := fnBestRow.holds Try.pinned (OpenSpec.ofChange fnBestWrong)

/- THE SECOND FORM. 'bulk': how many values and letters a reading holds, each counted each time it is reached (what is shared counts as often as it is met; a slice's spare places count too). A statement '..UptoSaid' is the law's where the arguments, and the package variables that the reading takes, are together of bulk at most 1048576: NARROWER than '..Said'. Prove '..Said' where nothing that the law and all that it calls make is longer than what came in: it says more and counts as full. Else prove '..UptoSaid'. A law counts once. -/
mutual
def uptoBulk {H : Type} : DataW H → Nat
  | .lit (.string bytes) => bytes.length + 1
  | .lit _ => 1
  | .nil => 1
  | .ptr d => uptoBulk d + 1
  | .slice elems spare => uptoBulkAll elems + uptoBulkAll spare + 1
  | .agg parts => uptoBulkAll parts + 1
  | .iface _ d => uptoBulk d + 1
  | .map entries => uptoBulkEntries entries + 1
  | .held _ => 1
def uptoBulkAll {H : Type} : List (DataW H) → Nat
  | [] => 0
  | d :: r => uptoBulk d + uptoBulkAll r
def uptoBulkEntries {H : Type} : List (Lit × DataW H) → Nat
  | [] => 0
  | x :: r => uptoBulkEntry x + uptoBulkEntries r
def uptoBulkEntry {H : Type} : Lit × DataW H → Nat
  | (.string bytes, d) => bytes.length + uptoBulk d + 1
  | (_, d) => uptoBulk d + 1
 end
def uptoSmall : (H : Type) → List (DataW H) → Bool := fun _ ds => decide (uptoBulkAll ds ≤ 1048576)
def OpenSpec.upto (s : _root_.Go.ChangeSpec) : _root_.Go.OpenSpec := { _root_.Go.OpenSpec.ofChange s with cond := some uptoSmall }

/-- 'laws.FnExactEitherOf', WHERE WHAT IT READS IS OF BULK AT MOST 1048576: true; the input reads as it did. -/
def fnExactEitherOfUptoRow : OpenClaim := { program := "ytlmhccnkganpcaa", sum := "6f81b6e179ce7657918ba98978d61c423a7c5cb211aa2b54d6781ed394302389", func := "loop.example/g01357/laws.FnExactEitherOf", spec := "fnExactEitherOf", apart := false, narrowed := true }
def FnExactEitherOfUptoSaid : Prop := fnExactEitherOfUptoRow.holds Try.pinned (OpenSpec.upto fnExactEitherOfSpec)

/-- 'laws.FnExactRepeatOf', WHERE WHAT IT READS IS OF BULK AT MOST 1048576: true; the input reads as it did. -/
def fnExactRepeatOfUptoRow : OpenClaim := { program := "ytlmhccnkganpcaa", sum := "6f81b6e179ce7657918ba98978d61c423a7c5cb211aa2b54d6781ed394302389", func := "loop.example/g01357/laws.FnExactRepeatOf", spec := "fnExactRepeatOf", apart := false, narrowed := true }
def FnExactRepeatOfUptoSaid : Prop := fnExactRepeatOfUptoRow.holds Try.pinned (OpenSpec.upto fnExactRepeatOfSpec)

/-- 'laws.FnExactJoinedOf', WHERE WHAT IT READS IS OF BULK AT MOST 1048576: true; the input reads as it did. -/
def fnExactJoinedOfUptoRow : OpenClaim := { program := "ytlmhccnkganpcaa", sum := "6f81b6e179ce7657918ba98978d61c423a7c5cb211aa2b54d6781ed394302389", func := "loop.example/g01357/laws.FnExactJoinedOf", spec := "fnExactJoinedOf", apart := false, narrowed := true }
def FnExactJoinedOfUptoSaid : Prop := fnExactJoinedOfUptoRow.holds Try.pinned (OpenSpec.upto fnExactJoinedOfSpec)

/-- 'laws.FnExactCostOf', WHERE WHAT IT READS IS OF BULK AT MOST 1048576: true; the input reads as it did. -/
def fnExactCostOfUptoRow : OpenClaim := { program := "ytlmhccnkganpcaa", sum := "6f81b6e179ce7657918ba98978d61c423a7c5cb211aa2b54d6781ed394302389", func := "loop.example/g01357/laws.FnExactCostOf", spec := "fnExactCostOf", apart := false, narrowed := true }
def FnExactCostOfUptoSaid : Prop := fnExactCostOfUptoRow.holds Try.pinned (OpenSpec.upto fnExactCostOfSpec)

/-- 'laws.FnExactPlainOf', WHERE WHAT IT READS IS OF BULK AT MOST 1048576: true; the input reads as it did. -/
def fnExactPlainOfUptoRow : OpenClaim := { program := "ytlmhccnkganpcaa", sum := "6f81b6e179ce7657918ba98978d61c423a7c5cb211aa2b54d6781ed394302389", func := "loop.example/g01357/laws.FnExactPlainOf", spec := "fnExactPlainOf", unfollowed := true, recurses := true, apart := false, narrowed := true }
def FnExactPlainOfUptoSaid : Prop := fnExactPlainOfUptoRow.holds Try.pinned (OpenSpec.upto fnExactPlainOfSpec)

/-- 'laws.FnExactBestWord', WHERE WHAT IT READS IS OF BULK AT MOST 1048576: true; the input reads as it did. -/
def fnExactBestWordUptoRow : OpenClaim := { program := "ytlmhccnkganpcaa", sum := "6f81b6e179ce7657918ba98978d61c423a7c5cb211aa2b54d6781ed394302389", func := "loop.example/g01357/laws.FnExactBestWord", spec := "fnExactBestWord", unfollowed := true, recurses := true, apart := false, narrowed := true }
def FnExactBestWordUptoSaid : Prop := fnExactBestWordUptoRow.holds Try.pinned (OpenSpec.upto fnExactBestWordSpec)

/-- 'laws.FnExactBestWords', WHERE WHAT IT READS IS OF BULK AT MOST 1048576: true; the input reads as it did. -/
def fnExactBestWordsUptoRow : OpenClaim := { program := "ytlmhccnkganpcaa", sum := "6f81b6e179ce7657918ba98978d61c423a7c5cb211aa2b54d6781ed394302389", func := "loop.example/g01357/laws.FnExactBestWords", spec := "fnExactBestWords", unfollowed := true, recurses := true, apart := false, narrowed := true }
def FnExactBestWordsUptoSaid : Prop := fnExactBestWordsUptoRow.holds Try.pinned (OpenSpec.upto fnExactBestWordsSpec)

/-- 'laws.FnExactTidyOf', WHERE WHAT IT READS IS OF BULK AT MOST 1048576: true; the input reads as it did. -/
def fnExactTidyOfUptoRow : OpenClaim := { program := "ytlmhccnkganpcaa", sum := "6f81b6e179ce7657918ba98978d61c423a7c5cb211aa2b54d6781ed394302389", func := "loop.example/g01357/laws.FnExactTidyOf", spec := "fnExactTidyOf", unfollowed := true, recurses := true, apart := false, narrowed := true }
def FnExactTidyOfUptoSaid : Prop := fnExactTidyOfUptoRow.holds Try.pinned (OpenSpec.upto fnExactTidyOfSpec)

/-- 'laws.FnExactTrimOf', WHERE WHAT IT READS IS OF BULK AT MOST 1048576: true; the input reads as it did. -/
def fnExactTrimOfUptoRow : OpenClaim := { program := "ytlmhccnkganpcaa", sum := "6f81b6e179ce7657918ba98978d61c423a7c5cb211aa2b54d6781ed394302389", func := "loop.example/g01357/laws.FnExactTrimOf", spec := "fnExactTrimOf", unfollowed := true, recurses := true, apart := false, narrowed := true }
def FnExactTrimOfUptoSaid : Prop := fnExactTrimOfUptoRow.holds Try.pinned (OpenSpec.upto fnExactTrimOfSpec)

/-- 'laws.FnExactWithoutEmpty', WHERE WHAT IT READS IS OF BULK AT MOST 1048576: true; the input reads as it did. -/
def fnExactWithoutEmptyUptoRow : OpenClaim := { program := "ytlmhccnkganpcaa", sum := "6f81b6e179ce7657918ba98978d61c423a7c5cb211aa2b54d6781ed394302389", func := "loop.example/g01357/laws.FnExactWithoutEmpty", spec := "fnExactWithoutEmpty", unfollowed := true, recurses := true, apart := false, narrowed := true }
def FnExactWithoutEmptyUptoSaid : Prop := fnExactWithoutEmptyUptoRow.holds Try.pinned (OpenSpec.upto fnExactWithoutEmptySpec)

/-- 'laws.FnMachines', WHERE WHAT IT READS IS OF BULK AT MOST 1048576: true; the input reads as it did. -/
def fnMachinesUptoRow : OpenClaim := { program := "ytlmhccnkganpcaa", sum := "6f81b6e179ce7657918ba98978d61c423a7c5cb211aa2b54d6781ed394302389", func := "loop.example/g01357/laws.FnMachines", spec := "fnMachines", apart := false, narrowed := true }
def FnMachinesUptoSaid : Prop := fnMachinesUptoRow.holds Try.pinned (OpenSpec.upto fnMachinesSpec)

/-- 'laws.FnBest', WHERE WHAT IT READS IS OF BULK AT MOST 1048576: true; the input reads as it did. -/
def fnBestUptoRow : OpenClaim := { program := "ytlmhccnkganpcaa", sum := "6f81b6e179ce7657918ba98978d61c423a7c5cb211aa2b54d6781ed394302389", func := "loop.example/g01357/laws.FnBest", spec := "fnBest", unfollowed := true, recurses := true, apart := false, narrowed := true }
def FnBestUptoSaid : Prop := fnBestUptoRow.holds Try.pinned (OpenSpec.upto fnBestSpec)

end Rows
end Go.Proofs.Ytlmhccnkganpcaa
