/-
  No cell of these rows narrows 'for every input' (looked for: loops, veiled, ifaces, maps, wideKeys, modest, calm, conditions, laid).
  DERIVED. THE GIVEN ROWS OF THIS SEAT. 4 by the template 'for every input the law returns true; each argument reads behind the call as it read before'; 0 by the template 'total and deterministic' (their statements: YtbdfbmohdbigfaaTotals.lean).
  GIVEN WITH THE SEED: the statements are not yours to turn. If you find one false, say at which input.
  Laid BY PROGRAM, IN A SANDBOX (cutbox-rows.mjs): the forced cells as the released guide's own fill.sh prints them over the translation 8ae41f779354f100… (all of the seat's roots in one cut). By AI agents, Wed Nov 11 2026. No macro, syntax, notation, axiom, sorry.
-/
import Derived.Test.YtbdfbmohdbigfaaChecked
import GoSem.Claim
import GoSem.ClaimJoined
import GoSem.ClaimMapViews
import Derived.JoinedTies
import Derived.KernelRfl
namespace Go.Proofs.Ytbdfbmohdbigfaa
/- THE CELL 'sum', in the pinned program and in every row, IS THE sha256 OF THE DUMP (.gsa) THAT YtbdfbmohdbigfaaProg.lean LOADS. Nothing in Lean hashes anything: it is a label: what it is worth is what the hold of that sum in a sandbox is worth. -/
noncomputable def Try.pinned : Pinned := { name := "ytbdfbmohdbigfaa", sum := "8ae41f779354f10030910b1988a16b7b3a23483fe489a6f441e6b85dae18f9a6", checked := Try.checked }
namespace Rows
def none {H : Type} : Left H := { results := [], args := [] }

/-- 'laws.FnPlains': WHATEVER THE INPUT: true; the input reads as it did. -/
def fnPlainsSpec : ChangeSpec := { name := "fnPlains", fn := fun _ => fun
  | [d1, d2] => { results := [.lit (.bool true)], args := [d1, d2] }
  | _ => none }
def fnPlainsRow : OpenClaim := { program := "ytbdfbmohdbigfaa", sum := "8ae41f779354f10030910b1988a16b7b3a23483fe489a6f441e6b85dae18f9a6", func := "loop.example/g01357/laws.FnPlains", spec := "fnPlains", unfollowed := true, recurses := true, plainKeys := false, apart := false }
def FnPlainsSaid : Prop := fnPlainsRow.holds Try.pinned (OpenSpec.ofChange fnPlainsSpec)

/-- ITS FALSE NEIGHBOUR: 'it returns false'. Refute it at one input. -/
def fnPlainsWrong : ChangeSpec := { name := "fnPlains", fn := fun _ => fun
  | [d1, d2] => { results := [.lit (.bool false)], args := [d1, d2] }
  | _ => none }
def FnPlainsWrongFalsely : Prop := fnPlainsRow.holds Try.pinned (OpenSpec.ofChange fnPlainsWrong)

/-- 'laws.FnExactPlainOf': WHATEVER THE INPUT: true; the input reads as it did. -/
def fnExactPlainOfSpec : ChangeSpec := { name := "fnExactPlainOf", fn := fun _ => fun
  | [d] => { results := [.lit (.bool true)], args := [d] }
  | _ => none }
def fnExactPlainOfRow : OpenClaim := { program := "ytbdfbmohdbigfaa", sum := "8ae41f779354f10030910b1988a16b7b3a23483fe489a6f441e6b85dae18f9a6", func := "loop.example/g01357/laws.FnExactPlainOf", spec := "fnExactPlainOf", unfollowed := true, recurses := true, plainKeys := false, apart := false }
def FnExactPlainOfSaid : Prop := fnExactPlainOfRow.holds Try.pinned (OpenSpec.ofChange fnExactPlainOfSpec)

/-- ITS FALSE NEIGHBOUR: 'it returns false'. Refute it at one input. -/
def fnExactPlainOfWrong : ChangeSpec := { name := "fnExactPlainOf", fn := fun _ => fun
  | [d] => { results := [.lit (.bool false)], args := [d] }
  | _ => none }
def FnExactPlainOfWrongFalsely : Prop := fnExactPlainOfRow.holds Try.pinned (OpenSpec.ofChange fnExactPlainOfWrong)

/-- 'laws.FnExactLearnPlain': WHATEVER THE INPUT: true; the input reads as it did. -/
def fnExactLearnPlainSpec : ChangeSpec := { name := "fnExactLearnPlain", fn := fun _ => fun
  | [d] => { results := [.lit (.bool true)], args := [d] }
  | _ => none }
def fnExactLearnPlainRow : OpenClaim := { program := "ytbdfbmohdbigfaa", sum := "8ae41f779354f10030910b1988a16b7b3a23483fe489a6f441e6b85dae18f9a6", func := "loop.example/g01357/laws.FnExactLearnPlain", spec := "fnExactLearnPlain", unfollowed := true, recurses := true, plainKeys := false, apart := false }
def FnExactLearnPlainSaid : Prop := fnExactLearnPlainRow.holds Try.pinned (OpenSpec.ofChange fnExactLearnPlainSpec)

/-- ITS FALSE NEIGHBOUR: 'it returns false'. Refute it at one input. -/
def fnExactLearnPlainWrong : ChangeSpec := { name := "fnExactLearnPlain", fn := fun _ => fun
  | [d] => { results := [.lit (.bool false)], args := [d] }
  | _ => none }
def FnExactLearnPlainWrongFalsely : Prop := fnExactLearnPlainRow.holds Try.pinned (OpenSpec.ofChange fnExactLearnPlainWrong)

/-- 'laws.FnSmall': WHATEVER THE INPUT: true; the input reads as it did. -/
def fnSmallSpec : ChangeSpec := { name := "fnSmall", fn := fun _ => fun
  | [d1, d2] => { results := [.lit (.bool true)], args := [d1, d2] }
  | _ => none }
def fnSmallRow : OpenClaim := { program := "ytbdfbmohdbigfaa", sum := "8ae41f779354f10030910b1988a16b7b3a23483fe489a6f441e6b85dae18f9a6", func := "loop.example/g01357/laws.FnSmall", spec := "fnSmall", unfollowed := true, recurses := true, plainKeys := false, apart := false }
def FnSmallSaid : Prop := fnSmallRow.holds Try.pinned (OpenSpec.ofChange fnSmallSpec)

/-- ITS FALSE NEIGHBOUR: 'it returns false'. Refute it at one input. -/
def fnSmallWrong : ChangeSpec := { name := "fnSmall", fn := fun _ => fun
  | [d1, d2] => { results := [.lit (.bool false)], args := [d1, d2] }
  | _ => none }
def FnSmallWrongFalsely : Prop := fnSmallRow.holds Try.pinned (OpenSpec.ofChange fnSmallWrong)

/- THE SECOND FORM. 'bulk': how many values and letters a reading holds, each counted each time it is reached (what is shared counts as often as it is met; a slice's spare places count too). A statement '..UptoSaid' is the law's where the arguments, and the package variables that the reading takes, are together of bulk at most 1048576: NARROWER than '..Said'. Prove '..Said' where nothing that the law and all that it calls make is longer than what came in: it says more and counts as full. Else prove '..UptoSaid'. A law counts once. -/
mutual
def uptoBulk {H : Type} : DataW H → Nat
  | .lit (.string bytes) => bytes.length + 1
  | .lit _ => 1
  | .nil => 1
  | .ptr d => uptoBulk d + 1
  | .slice elems spare => uptoBulkAll elems + uptoBulkAll spare + 1
  | .agg parts => uptoBulkAll parts + 1
  | .iface _ d => uptoBulk d + 1
  | .map entries => uptoBulkEntries entries + 1
  | .held _ => 1
def uptoBulkAll {H : Type} : List (DataW H) → Nat
  | [] => 0
  | d :: r => uptoBulk d + uptoBulkAll r
def uptoBulkEntries {H : Type} : List (Lit × DataW H) → Nat
  | [] => 0
  | x :: r => uptoBulkEntry x + uptoBulkEntries r
def uptoBulkEntry {H : Type} : Lit × DataW H → Nat
  | (.string bytes, d) => bytes.length + uptoBulk d + 1
  | (_, d) => uptoBulk d + 1
 end
def uptoSmall : (H : Type) → List (DataW H) → Bool := fun _ ds => decide (uptoBulkAll ds ≤ 1048576)
def OpenSpec.upto (s : _root_.Go.ChangeSpec) : _root_.Go.OpenSpec := { _root_.Go.OpenSpec.ofChange s with cond := some uptoSmall }

/-- 'laws.FnPlains', WHERE WHAT IT READS IS OF BULK AT MOST 1048576: true; the input reads as it did. -/
def fnPlainsUptoRow : OpenClaim := { program := "ytbdfbmohdbigfaa", sum := "8ae41f779354f10030910b1988a16b7b3a23483fe489a6f441e6b85dae18f9a6", func := "loop.example/g01357/laws.FnPlains", spec := "fnPlains", unfollowed := true, recurses := true, plainKeys := false, apart := false, narrowed := true }
def FnPlainsUptoSaid : Prop := fnPlainsUptoRow.holds Try.pinned (OpenSpec.upto fnPlainsSpec)

/-- 'laws.FnExactPlainOf', WHERE WHAT IT READS IS OF BULK AT MOST 1048576: true; the input reads as it did. -/
def fnExactPlainOfUptoRow : OpenClaim := { program := "ytbdfbmohdbigfaa", sum := "8ae41f779354f10030910b1988a16b7b3a23483fe489a6f441e6b85dae18f9a6", func := "loop.example/g01357/laws.FnExactPlainOf", spec := "fnExactPlainOf", unfollowed := true, recurses := true, plainKeys := false, apart := false, narrowed := true }
def FnExactPlainOfUptoSaid : Prop := fnExactPlainOfUptoRow.holds Try.pinned (OpenSpec.upto fnExactPlainOfSpec)

/-- 'laws.FnExactLearnPlain', WHERE WHAT IT READS IS OF BULK AT MOST 1048576: true; the input reads as it did. -/
def fnExactLearnPlainUptoRow : OpenClaim := { program := "ytbdfbmohdbigfaa", sum := "8ae41f779354f10030910b1988a16b7b3a23483fe489a6f441e6b85dae18f9a6", func := "loop.example/g01357/laws.FnExactLearnPlain", spec := "fnExactLearnPlain", unfollowed := true, recurses := true, plainKeys := false, apart := false, narrowed := true }
def FnExactLearnPlainUptoSaid : Prop := fnExactLearnPlainUptoRow.holds Try.pinned (OpenSpec.upto fnExactLearnPlainSpec)

/-- 'laws.FnSmall', WHERE WHAT IT READS IS OF BULK AT MOST 1048576: true; the input reads as it did. -/
def fnSmallUptoRow : OpenClaim := { program := "ytbdfbmohdbigfaa", sum := "8ae41f779354f10030910b1988a16b7b3a23483fe489a6f441e6b85dae18f9a6", func := "loop.example/g01357/laws.FnSmall", spec := "fnSmall", unfollowed := true, recurses := true, plainKeys := false, apart := false, narrowed := true }
def FnSmallUptoSaid : Prop := fnSmallUptoRow.holds Try.pinned (OpenSpec.upto fnSmallSpec)

end Rows
end Go.Proofs.Ytbdfbmohdbigfaa
