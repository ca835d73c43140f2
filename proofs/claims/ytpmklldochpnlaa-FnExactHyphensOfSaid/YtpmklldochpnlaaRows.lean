/-
  No cell of these rows narrows 'for every input' (looked for: loops, veiled, ifaces, maps, wideKeys, modest, calm, conditions, laid).
  DERIVED. THE GIVEN ROWS OF THIS SEAT. 9 by the template 'for every input the law returns true; each argument reads behind the call as it read before'; 0 by the template 'total and deterministic' (their statements: YtpmklldochpnlaaTotals.lean).
  GIVEN WITH THE SEED: the statements are not yours to turn. If you find one false, say at which input.
  Laid BY PROGRAM, IN A SANDBOX (cutbox-rows.mjs): the forced cells as the released guide's own fill.sh prints them over the translation 5d1236629cb5c0bb… (all of the seat's roots in one cut). By AI agents, Wed Nov 11 2026. No macro, syntax, notation, axiom, sorry.
-/
import Derived.Test.YtpmklldochpnlaaChecked
import GoSem.Claim
import GoSem.ClaimJoined
import GoSem.ClaimMapViews
import Derived.JoinedTies
import Derived.KernelRfl
namespace Go.Proofs.Ytpmklldochpnlaa
/- THE CELL 'sum', in the pinned program and in every row, IS THE sha256 OF THE DUMP (.gsa) THAT YtpmklldochpnlaaProg.lean LOADS. Nothing in Lean hashes anything: it is a label: what it is worth is what the hold of that sum in a sandbox is worth. -/
noncomputable def Try.pinned : Pinned := { name := "ytpmklldochpnlaa", sum := "5d1236629cb5c0bbe982988fd683dcfb16b52d228abc732dd26a211ef3fc3311", checked := Try.checked }
namespace Rows
def none {H : Type} : Left H := { results := [], args := [] }

/-- 'laws.FnExactSharedText': WHATEVER THE INPUT: true; the input reads as it did. -/
def fnExactSharedTextSpec : ChangeSpec := { name := "fnExactSharedText", fn := fun _ => fun
  | [d1, d2] => { results := [.lit (.bool true)], args := [d1, d2] }
  | _ => none }
def fnExactSharedTextRow : OpenClaim := { program := "ytpmklldochpnlaa", sum := "5d1236629cb5c0bbe982988fd683dcfb16b52d228abc732dd26a211ef3fc3311", func := "loop.example/g01357/laws.FnExactSharedText", spec := "fnExactSharedText", inPlace := ["internal/bytealg.IndexByteString", "internal/bytealg.IndexString"], named := ["internal/bytealg.MaxLen"], apart := false }
def FnExactSharedTextSaid : Prop := fnExactSharedTextRow.holds Try.pinned (OpenSpec.ofChange fnExactSharedTextSpec)

/-- ITS FALSE NEIGHBOUR: 'it returns false'. Refute it at one input. -/
def fnExactSharedTextWrong : ChangeSpec := { name := "fnExactSharedText", fn := fun _ => fun
  | [d1, d2] => { results := [.lit (.bool false)], args := [d1, d2] }
  | _ => none }
def FnExactSharedTextWrongFalsely : Prop := fnExactSharedTextRow.holds Try.pinned (OpenSpec.ofChange fnExactSharedTextWrong)

/-- 'laws.FnExactAlignGain': WHATEVER THE INPUT: true; the input reads as it did. -/
def fnExactAlignGainSpec : ChangeSpec := { name := "fnExactAlignGain", fn := fun _ => fun
  | [d1, d2, d3, d4, d5, d6] => { results := [.lit (.bool true)], args := [d1, d2, d3, d4, d5, d6] }
  | _ => none }
def fnExactAlignGainRow : OpenClaim := { program := "ytpmklldochpnlaa", sum := "5d1236629cb5c0bbe982988fd683dcfb16b52d228abc732dd26a211ef3fc3311", func := "loop.example/g01357/laws.FnExactAlignGain", spec := "fnExactAlignGain", apart := false }
def FnExactAlignGainSaid : Prop := fnExactAlignGainRow.holds Try.pinned (OpenSpec.ofChange fnExactAlignGainSpec)

/-- ITS FALSE NEIGHBOUR: 'it returns false'. Refute it at one input. -/
def fnExactAlignGainWrong : ChangeSpec := { name := "fnExactAlignGain", fn := fun _ => fun
  | [d1, d2, d3, d4, d5, d6] => { results := [.lit (.bool false)], args := [d1, d2, d3, d4, d5, d6] }
  | _ => none }
def FnExactAlignGainWrongFalsely : Prop := fnExactAlignGainRow.holds Try.pinned (OpenSpec.ofChange fnExactAlignGainWrong)

/-- 'laws.FnExactCommonStart': WHATEVER THE INPUT: true; the input reads as it did. -/
def fnExactCommonStartSpec : ChangeSpec := { name := "fnExactCommonStart", fn := fun _ => fun
  | [d] => { results := [.lit (.bool true)], args := [d] }
  | _ => none }
def fnExactCommonStartRow : OpenClaim := { program := "ytpmklldochpnlaa", sum := "5d1236629cb5c0bbe982988fd683dcfb16b52d228abc732dd26a211ef3fc3311", func := "loop.example/g01357/laws.FnExactCommonStart", spec := "fnExactCommonStart", unfollowed := true, recurses := true, apart := false }
def FnExactCommonStartSaid : Prop := fnExactCommonStartRow.holds Try.pinned (OpenSpec.ofChange fnExactCommonStartSpec)

/-- ITS FALSE NEIGHBOUR: 'it returns false'. Refute it at one input. -/
def fnExactCommonStartWrong : ChangeSpec := { name := "fnExactCommonStart", fn := fun _ => fun
  | [d] => { results := [.lit (.bool false)], args := [d] }
  | _ => none }
def FnExactCommonStartWrongFalsely : Prop := fnExactCommonStartRow.holds Try.pinned (OpenSpec.ofChange fnExactCommonStartWrong)

/-- 'laws.FnExactStemOf': WHATEVER THE INPUT: true; the input reads as it did. -/
def fnExactStemOfSpec : ChangeSpec := { name := "fnExactStemOf", fn := fun _ => fun
  | [d1, d2, d3, d4] => { results := [.lit (.bool true)], args := [d1, d2, d3, d4] }
  | _ => none }
def fnExactStemOfRow : OpenClaim := { program := "ytpmklldochpnlaa", sum := "5d1236629cb5c0bbe982988fd683dcfb16b52d228abc732dd26a211ef3fc3311", func := "loop.example/g01357/laws.FnExactStemOf", spec := "fnExactStemOf", unfollowed := true, recurses := true, apart := false }
def FnExactStemOfSaid : Prop := fnExactStemOfRow.holds Try.pinned (OpenSpec.ofChange fnExactStemOfSpec)

/-- ITS FALSE NEIGHBOUR: 'it returns false'. Refute it at one input. -/
def fnExactStemOfWrong : ChangeSpec := { name := "fnExactStemOf", fn := fun _ => fun
  | [d1, d2, d3, d4] => { results := [.lit (.bool false)], args := [d1, d2, d3, d4] }
  | _ => none }
def FnExactStemOfWrongFalsely : Prop := fnExactStemOfRow.holds Try.pinned (OpenSpec.ofChange fnExactStemOfWrong)

/-- 'laws.FnExactNearShared': WHATEVER THE INPUT: true; the input reads as it did. -/
def fnExactNearSharedSpec : ChangeSpec := { name := "fnExactNearShared", fn := fun _ => fun
  | [d1, d2, d3] => { results := [.lit (.bool true)], args := [d1, d2, d3] }
  | _ => none }
def fnExactNearSharedRow : OpenClaim := { program := "ytpmklldochpnlaa", sum := "5d1236629cb5c0bbe982988fd683dcfb16b52d228abc732dd26a211ef3fc3311", func := "loop.example/g01357/laws.FnExactNearShared", spec := "fnExactNearShared", unfollowed := true, recurses := true, apart := false }
def FnExactNearSharedSaid : Prop := fnExactNearSharedRow.holds Try.pinned (OpenSpec.ofChange fnExactNearSharedSpec)

/-- ITS FALSE NEIGHBOUR: 'it returns false'. Refute it at one input. -/
def fnExactNearSharedWrong : ChangeSpec := { name := "fnExactNearShared", fn := fun _ => fun
  | [d1, d2, d3] => { results := [.lit (.bool false)], args := [d1, d2, d3] }
  | _ => none }
def FnExactNearSharedWrongFalsely : Prop := fnExactNearSharedRow.holds Try.pinned (OpenSpec.ofChange fnExactNearSharedWrong)

/-- 'laws.FnExactNearTexts': WHATEVER THE INPUT: true; the input reads as it did. -/
def fnExactNearTextsSpec : ChangeSpec := { name := "fnExactNearTexts", fn := fun _ => fun
  | [d1, d2, d3] => { results := [.lit (.bool true)], args := [d1, d2, d3] }
  | _ => none }
def fnExactNearTextsRow : OpenClaim := { program := "ytpmklldochpnlaa", sum := "5d1236629cb5c0bbe982988fd683dcfb16b52d228abc732dd26a211ef3fc3311", func := "loop.example/g01357/laws.FnExactNearTexts", spec := "fnExactNearTexts", unfollowed := true, recurses := true, apart := false }
def FnExactNearTextsSaid : Prop := fnExactNearTextsRow.holds Try.pinned (OpenSpec.ofChange fnExactNearTextsSpec)

/-- ITS FALSE NEIGHBOUR: 'it returns false'. Refute it at one input. -/
def fnExactNearTextsWrong : ChangeSpec := { name := "fnExactNearTexts", fn := fun _ => fun
  | [d1, d2, d3] => { results := [.lit (.bool false)], args := [d1, d2, d3] }
  | _ => none }
def FnExactNearTextsWrongFalsely : Prop := fnExactNearTextsRow.holds Try.pinned (OpenSpec.ofChange fnExactNearTextsWrong)

/-- 'laws.FnExactHyphensOf': WHATEVER THE INPUT: true; the input reads as it did. -/
def fnExactHyphensOfSpec : ChangeSpec := { name := "fnExactHyphensOf", fn := fun _ => fun
  | [d1, d2] => { results := [.lit (.bool true)], args := [d1, d2] }
  | _ => none }
def fnExactHyphensOfRow : OpenClaim := { program := "ytpmklldochpnlaa", sum := "5d1236629cb5c0bbe982988fd683dcfb16b52d228abc732dd26a211ef3fc3311", func := "loop.example/g01357/laws.FnExactHyphensOf", spec := "fnExactHyphensOf", apart := false }
def FnExactHyphensOfSaid : Prop := fnExactHyphensOfRow.holds Try.pinned (OpenSpec.ofChange fnExactHyphensOfSpec)

/-- ITS FALSE NEIGHBOUR: 'it returns false'. Refute it at one input. -/
def fnExactHyphensOfWrong : ChangeSpec := { name := "fnExactHyphensOf", fn := fun _ => fun
  | [d1, d2] => { results := [.lit (.bool false)], args := [d1, d2] }
  | _ => none }
def FnExactHyphensOfWrongFalsely : Prop := fnExactHyphensOfRow.holds Try.pinned (OpenSpec.ofChange fnExactHyphensOfWrong)

/-- 'laws.FnExactReadWords': WHATEVER THE INPUT: true; the input reads as it did. -/
def fnExactReadWordsSpec : ChangeSpec := { name := "fnExactReadWords", fn := fun _ => fun
  | [d] => { results := [.lit (.bool true)], args := [d] }
  | _ => none }
def fnExactReadWordsRow : OpenClaim := { program := "ytpmklldochpnlaa", sum := "5d1236629cb5c0bbe982988fd683dcfb16b52d228abc732dd26a211ef3fc3311", func := "loop.example/g01357/laws.FnExactReadWords", spec := "fnExactReadWords", inPlace := ["internal/bytealg.IndexByteString", "internal/bytealg.IndexString"], recurses := true, named := ["internal/bytealg.MaxLen"], apart := false }
def FnExactReadWordsSaid : Prop := fnExactReadWordsRow.holds Try.pinned (OpenSpec.ofChange fnExactReadWordsSpec)

/-- ITS FALSE NEIGHBOUR: 'it returns false'. Refute it at one input. -/
def fnExactReadWordsWrong : ChangeSpec := { name := "fnExactReadWords", fn := fun _ => fun
  | [d] => { results := [.lit (.bool false)], args := [d] }
  | _ => none }
def FnExactReadWordsWrongFalsely : Prop := fnExactReadWordsRow.holds Try.pinned (OpenSpec.ofChange fnExactReadWordsWrong)

/-- 'laws.FnEdits': WHATEVER THE INPUT: true; the input reads as it did. -/
def fnEditsSpec : ChangeSpec := { name := "fnEdits", fn := fun _ => fun
  | [d1, d2] => { results := [.lit (.bool true)], args := [d1, d2] }
  | _ => none }
def fnEditsRow : OpenClaim := { program := "ytpmklldochpnlaa", sum := "5d1236629cb5c0bbe982988fd683dcfb16b52d228abc732dd26a211ef3fc3311", func := "loop.example/g01357/laws.FnEdits", spec := "fnEdits", inPlace := ["internal/bytealg.IndexByteString", "internal/bytealg.IndexString"], unfollowed := true, recurses := true, named := ["internal/bytealg.MaxLen"], apart := false }
def FnEditsSaid : Prop := fnEditsRow.holds Try.pinned (OpenSpec.ofChange fnEditsSpec)

/-- ITS FALSE NEIGHBOUR: 'it returns false'. Refute it at one input. -/
def fnEditsWrong : ChangeSpec := { name := "fnEdits", fn := fun _ => fun
  | [d1, d2] => { results := [.lit (.bool false)], args := [d1, d2] }
  | _ => none }
def FnEditsWrongFalsely : Prop := fnEditsRow.holds Try.pinned (OpenSpec.ofChange fnEditsWrong)

/- THE SECOND FORM. 'bulk': how many values and letters a reading holds, each counted each time it is reached (what is shared counts as often as it is met; a slice's spare places count too). A statement '..UptoSaid' is the law's where the arguments, and the package variables that the reading takes, are together of bulk at most 1048576: NARROWER than '..Said'. Prove '..Said' where nothing that the law and all that it calls make is longer than what came in: it says more and counts as full. Else prove '..UptoSaid'. A law counts once. -/
mutual
def uptoBulk {H : Type} : DataW H → Nat
  | .lit (.string bytes) => bytes.length + 1
  | .lit _ => 1
  | .nil => 1
  | .ptr d => uptoBulk d + 1
  | .slice elems spare => uptoBulkAll elems + uptoBulkAll spare + 1
  | .agg parts => uptoBulkAll parts + 1
  | .iface _ d => uptoBulk d + 1
  | .map entries => uptoBulkEntries entries + 1
  | .held _ => 1
def uptoBulkAll {H : Type} : List (DataW H) → Nat
  | [] => 0
  | d :: r => uptoBulk d + uptoBulkAll r
def uptoBulkEntries {H : Type} : List (Lit × DataW H) → Nat
  | [] => 0
  | x :: r => uptoBulkEntry x + uptoBulkEntries r
def uptoBulkEntry {H : Type} : Lit × DataW H → Nat
  | (.string bytes, d) => bytes.length + uptoBulk d + 1
  | (_, d) => uptoBulk d + 1
 end
def uptoSmall : (H : Type) → List (DataW H) → Bool := fun _ ds => decide (uptoBulkAll ds ≤ 1048576)
def OpenSpec.upto (s : _root_.Go.ChangeSpec) : _root_.Go.OpenSpec := { _root_.Go.OpenSpec.ofChange s with cond := some uptoSmall }

/-- 'laws.FnExactSharedText', WHERE WHAT IT READS IS OF BULK AT MOST 1048576: true; the input reads as it did. -/
def fnExactSharedTextUptoRow : OpenClaim := { program := "ytpmklldochpnlaa", sum := "5d1236629cb5c0bbe982988fd683dcfb16b52d228abc732dd26a211ef3fc3311", func := "loop.example/g01357/laws.FnExactSharedText", spec := "fnExactSharedText", inPlace := ["internal/bytealg.IndexByteString", "internal/bytealg.IndexString"], named := ["internal/bytealg.MaxLen"], apart := false, narrowed := true }
def FnExactSharedTextUptoSaid : Prop := fnExactSharedTextUptoRow.holds Try.pinned (OpenSpec.upto fnExactSharedTextSpec)

/-- 'laws.FnExactAlignGain', WHERE WHAT IT READS IS OF BULK AT MOST 1048576: true; the input reads as it did. -/
def fnExactAlignGainUptoRow : OpenClaim := { program := "ytpmklldochpnlaa", sum := "5d1236629cb5c0bbe982988fd683dcfb16b52d228abc732dd26a211ef3fc3311", func := "loop.example/g01357/laws.FnExactAlignGain", spec := "fnExactAlignGain", apart := false, narrowed := true }
def FnExactAlignGainUptoSaid : Prop := fnExactAlignGainUptoRow.holds Try.pinned (OpenSpec.upto fnExactAlignGainSpec)

/-- 'laws.FnExactCommonStart', WHERE WHAT IT READS IS OF BULK AT MOST 1048576: true; the input reads as it did. -/
def fnExactCommonStartUptoRow : OpenClaim := { program := "ytpmklldochpnlaa", sum := "5d1236629cb5c0bbe982988fd683dcfb16b52d228abc732dd26a211ef3fc3311", func := "loop.example/g01357/laws.FnExactCommonStart", spec := "fnExactCommonStart", unfollowed := true, recurses := true, apart := false, narrowed := true }
def FnExactCommonStartUptoSaid : Prop := fnExactCommonStartUptoRow.holds Try.pinned (OpenSpec.upto fnExactCommonStartSpec)

/-- 'laws.FnExactStemOf', WHERE WHAT IT READS IS OF BULK AT MOST 1048576: true; the input reads as it did. -/
def fnExactStemOfUptoRow : OpenClaim := { program := "ytpmklldochpnlaa", sum := "5d1236629cb5c0bbe982988fd683dcfb16b52d228abc732dd26a211ef3fc3311", func := "loop.example/g01357/laws.FnExactStemOf", spec := "fnExactStemOf", unfollowed := true, recurses := true, apart := false, narrowed := true }
def FnExactStemOfUptoSaid : Prop := fnExactStemOfUptoRow.holds Try.pinned (OpenSpec.upto fnExactStemOfSpec)

/-- 'laws.FnExactNearShared', WHERE WHAT IT READS IS OF BULK AT MOST 1048576: true; the input reads as it did. -/
def fnExactNearSharedUptoRow : OpenClaim := { program := "ytpmklldochpnlaa", sum := "5d1236629cb5c0bbe982988fd683dcfb16b52d228abc732dd26a211ef3fc3311", func := "loop.example/g01357/laws.FnExactNearShared", spec := "fnExactNearShared", unfollowed := true, recurses := true, apart := false, narrowed := true }
def FnExactNearSharedUptoSaid : Prop := fnExactNearSharedUptoRow.holds Try.pinned (OpenSpec.upto fnExactNearSharedSpec)

/-- 'laws.FnExactNearTexts', WHERE WHAT IT READS IS OF BULK AT MOST 1048576: true; the input reads as it did. -/
def fnExactNearTextsUptoRow : OpenClaim := { program := "ytpmklldochpnlaa", sum := "5d1236629cb5c0bbe982988fd683dcfb16b52d228abc732dd26a211ef3fc3311", func := "loop.example/g01357/laws.FnExactNearTexts", spec := "fnExactNearTexts", unfollowed := true, recurses := true, apart := false, narrowed := true }
def FnExactNearTextsUptoSaid : Prop := fnExactNearTextsUptoRow.holds Try.pinned (OpenSpec.upto fnExactNearTextsSpec)

/-- 'laws.FnExactHyphensOf', WHERE WHAT IT READS IS OF BULK AT MOST 1048576: true; the input reads as it did. -/
def fnExactHyphensOfUptoRow : OpenClaim := { program := "ytpmklldochpnlaa", sum := "5d1236629cb5c0bbe982988fd683dcfb16b52d228abc732dd26a211ef3fc3311", func := "loop.example/g01357/laws.FnExactHyphensOf", spec := "fnExactHyphensOf", apart := false, narrowed := true }
def FnExactHyphensOfUptoSaid : Prop := fnExactHyphensOfUptoRow.holds Try.pinned (OpenSpec.upto fnExactHyphensOfSpec)

/-- 'laws.FnExactReadWords', WHERE WHAT IT READS IS OF BULK AT MOST 1048576: true; the input reads as it did. -/
def fnExactReadWordsUptoRow : OpenClaim := { program := "ytpmklldochpnlaa", sum := "5d1236629cb5c0bbe982988fd683dcfb16b52d228abc732dd26a211ef3fc3311", func := "loop.example/g01357/laws.FnExactReadWords", spec := "fnExactReadWords", inPlace := ["internal/bytealg.IndexByteString", "internal/bytealg.IndexString"], recurses := true, named := ["internal/bytealg.MaxLen"], apart := false, narrowed := true }
def FnExactReadWordsUptoSaid : Prop := fnExactReadWordsUptoRow.holds Try.pinned (OpenSpec.upto fnExactReadWordsSpec)

/-- 'laws.FnEdits', WHERE WHAT IT READS IS OF BULK AT MOST 1048576: true; the input reads as it did. -/
def fnEditsUptoRow : OpenClaim := { program := "ytpmklldochpnlaa", sum := "5d1236629cb5c0bbe982988fd683dcfb16b52d228abc732dd26a211ef3fc3311", func := "loop.example/g01357/laws.FnEdits", spec := "fnEdits", inPlace := ["internal/bytealg.IndexByteString", "internal/bytealg.IndexString"], unfollowed := true, recurses := true, named := ["internal/bytealg.MaxLen"], apart := false, narrowed := true }
def FnEditsUptoSaid : Prop := fnEditsUptoRow.holds Try.pinned (OpenSpec.upto fnEditsSpec)

end Rows
end Go.Proofs.Ytpmklldochpnlaa
