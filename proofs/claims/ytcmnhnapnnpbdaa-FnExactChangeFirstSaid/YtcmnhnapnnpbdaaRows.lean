/-
  No cell of these rows narrows 'for every input' (looked for: loops, veiled, ifaces, maps, wideKeys, modest, calm, conditions, laid).
  DERIVED. THE GIVEN ROWS OF THIS SEAT. 11 by the template 'for every input the law returns true; each argument reads behind the call as it read before'; 0 by the template 'total and deterministic' (their statements: YtcmnhnapnnpbdaaTotals.lean).
  GIVEN WITH THE SEED: the statements are not yours to turn. If you find one false, say at which input.
  Laid BY PROGRAM, IN A SANDBOX (cutbox-rows.mjs): the forced cells as the released guide's own fill.sh prints them over the translation 854d03e87a09f5ed… (all of the seat's roots in one cut). By AI agents, Wed Nov 11 2026. No macro, syntax, notation, axiom, sorry.
-/
import Derived.Test.YtcmnhnapnnpbdaaChecked
import GoSem.Claim
import GoSem.ClaimJoined
import GoSem.ClaimMapViews
import Derived.JoinedTies
import Derived.KernelRfl
namespace Go.Proofs.Ytcmnhnapnnpbdaa
/- THE CELL 'sum', in the pinned program and in every row, IS THE sha256 OF THE DUMP (.gsa) THAT YtcmnhnapnnpbdaaProg.lean LOADS. Nothing in Lean hashes anything: it is a label: what it is worth is what the hold of that sum in a sandbox is worth. -/
noncomputable def Try.pinned : Pinned := { name := "ytcmnhnapnnpbdaa", sum := "854d03e87a09f5edcd2367626bb78b924906a56d2aa279471be1b5e6bffa64f8", checked := Try.checked }
namespace Rows
def none {H : Type} : Left H := { results := [], args := [] }

/-- 'laws.FnExactSameChange': WHATEVER THE INPUT: true; the input reads as it did. -/
def fnExactSameChangeSpec : ChangeSpec := { name := "fnExactSameChange", fn := fun _ => fun
  | [d1, d2] => { results := [.lit (.bool true)], args := [d1, d2] }
  | _ => none }
def fnExactSameChangeRow : OpenClaim := { program := "ytcmnhnapnnpbdaa", sum := "854d03e87a09f5edcd2367626bb78b924906a56d2aa279471be1b5e6bffa64f8", func := "loop.example/g01357/laws.FnExactSameChange", spec := "fnExactSameChange", plainKeys := false, apart := false }
def FnExactSameChangeSaid : Prop := fnExactSameChangeRow.holds Try.pinned (OpenSpec.ofChange fnExactSameChangeSpec)

/-- ITS FALSE NEIGHBOUR: 'it returns false'. Refute it at one input. -/
def fnExactSameChangeWrong : ChangeSpec := { name := "fnExactSameChange", fn := fun _ => fun
  | [d1, d2] => { results := [.lit (.bool false)], args := [d1, d2] }
  | _ => none }
def FnExactSameChangeWrongFalsely : Prop := fnExactSameChangeRow.holds Try.pinned (OpenSpec.ofChange fnExactSameChangeWrong)

/-- 'laws.FnExactValidChange': WHATEVER THE INPUT: true; the input reads as it did. -/
def fnExactValidChangeSpec : ChangeSpec := { name := "fnExactValidChange", fn := fun _ => fun
  | [d1, d2] => { results := [.lit (.bool true)], args := [d1, d2] }
  | _ => none }
def fnExactValidChangeRow : OpenClaim := { program := "ytcmnhnapnnpbdaa", sum := "854d03e87a09f5edcd2367626bb78b924906a56d2aa279471be1b5e6bffa64f8", func := "loop.example/g01357/laws.FnExactValidChange", spec := "fnExactValidChange", plainKeys := false, apart := false }
def FnExactValidChangeSaid : Prop := fnExactValidChangeRow.holds Try.pinned (OpenSpec.ofChange fnExactValidChangeSpec)

/-- ITS FALSE NEIGHBOUR: 'it returns false'. Refute it at one input. -/
def fnExactValidChangeWrong : ChangeSpec := { name := "fnExactValidChange", fn := fun _ => fun
  | [d1, d2] => { results := [.lit (.bool false)], args := [d1, d2] }
  | _ => none }
def FnExactValidChangeWrongFalsely : Prop := fnExactValidChangeRow.holds Try.pinned (OpenSpec.ofChange fnExactValidChangeWrong)

/-- 'laws.FnExactWithFeatures': WHATEVER THE INPUT: true; the input reads as it did. -/
def fnExactWithFeaturesSpec : ChangeSpec := { name := "fnExactWithFeatures", fn := fun _ => fun
  | [d1, d2, d3] => { results := [.lit (.bool true)], args := [d1, d2, d3] }
  | _ => none }
def fnExactWithFeaturesRow : OpenClaim := { program := "ytcmnhnapnnpbdaa", sum := "854d03e87a09f5edcd2367626bb78b924906a56d2aa279471be1b5e6bffa64f8", func := "loop.example/g01357/laws.FnExactWithFeatures", spec := "fnExactWithFeatures", plainKeys := false, apart := false }
def FnExactWithFeaturesSaid : Prop := fnExactWithFeaturesRow.holds Try.pinned (OpenSpec.ofChange fnExactWithFeaturesSpec)

/-- ITS FALSE NEIGHBOUR: 'it returns false'. Refute it at one input. -/
def fnExactWithFeaturesWrong : ChangeSpec := { name := "fnExactWithFeatures", fn := fun _ => fun
  | [d1, d2, d3] => { results := [.lit (.bool false)], args := [d1, d2, d3] }
  | _ => none }
def FnExactWithFeaturesWrongFalsely : Prop := fnExactWithFeaturesRow.holds Try.pinned (OpenSpec.ofChange fnExactWithFeaturesWrong)

/-- 'laws.FnExactShiftFeatures': WHATEVER THE INPUT: true; the input reads as it did. -/
def fnExactShiftFeaturesSpec : ChangeSpec := { name := "fnExactShiftFeatures", fn := fun _ => fun
  | [d1, d2, d3, d4, d5] => { results := [.lit (.bool true)], args := [d1, d2, d3, d4, d5] }
  | _ => none }
def fnExactShiftFeaturesRow : OpenClaim := { program := "ytcmnhnapnnpbdaa", sum := "854d03e87a09f5edcd2367626bb78b924906a56d2aa279471be1b5e6bffa64f8", func := "loop.example/g01357/laws.FnExactShiftFeatures", spec := "fnExactShiftFeatures", plainKeys := false, apart := false }
def FnExactShiftFeaturesSaid : Prop := fnExactShiftFeaturesRow.holds Try.pinned (OpenSpec.ofChange fnExactShiftFeaturesSpec)

/-- ITS FALSE NEIGHBOUR: 'it returns false'. Refute it at one input. -/
def fnExactShiftFeaturesWrong : ChangeSpec := { name := "fnExactShiftFeatures", fn := fun _ => fun
  | [d1, d2, d3, d4, d5] => { results := [.lit (.bool false)], args := [d1, d2, d3, d4, d5] }
  | _ => none }
def FnExactShiftFeaturesWrongFalsely : Prop := fnExactShiftFeaturesRow.holds Try.pinned (OpenSpec.ofChange fnExactShiftFeaturesWrong)

/-- 'laws.FnExactChangeAll': WHATEVER THE INPUT: true; the input reads as it did. -/
def fnExactChangeAllSpec : ChangeSpec := { name := "fnExactChangeAll", fn := fun _ => fun
  | [d1, d2, d3] => { results := [.lit (.bool true)], args := [d1, d2, d3] }
  | _ => none }
def fnExactChangeAllRow : OpenClaim := { program := "ytcmnhnapnnpbdaa", sum := "854d03e87a09f5edcd2367626bb78b924906a56d2aa279471be1b5e6bffa64f8", func := "loop.example/g01357/laws.FnExactChangeAll", spec := "fnExactChangeAll", plainKeys := false, apart := false }
def FnExactChangeAllSaid : Prop := fnExactChangeAllRow.holds Try.pinned (OpenSpec.ofChange fnExactChangeAllSpec)

/-- ITS FALSE NEIGHBOUR: 'it returns false'. Refute it at one input. -/
def fnExactChangeAllWrong : ChangeSpec := { name := "fnExactChangeAll", fn := fun _ => fun
  | [d1, d2, d3] => { results := [.lit (.bool false)], args := [d1, d2, d3] }
  | _ => none }
def FnExactChangeAllWrongFalsely : Prop := fnExactChangeAllRow.holds Try.pinned (OpenSpec.ofChange fnExactChangeAllWrong)

/-- 'laws.FnExactChangeFirst': WHATEVER THE INPUT: true; the input reads as it did. -/
def fnExactChangeFirstSpec : ChangeSpec := { name := "fnExactChangeFirst", fn := fun _ => fun
  | [d1, d2, d3] => { results := [.lit (.bool true)], args := [d1, d2, d3] }
  | _ => none }
def fnExactChangeFirstRow : OpenClaim := { program := "ytcmnhnapnnpbdaa", sum := "854d03e87a09f5edcd2367626bb78b924906a56d2aa279471be1b5e6bffa64f8", func := "loop.example/g01357/laws.FnExactChangeFirst", spec := "fnExactChangeFirst", plainKeys := false, apart := false }
def FnExactChangeFirstSaid : Prop := fnExactChangeFirstRow.holds Try.pinned (OpenSpec.ofChange fnExactChangeFirstSpec)

/-- ITS FALSE NEIGHBOUR: 'it returns false'. Refute it at one input. -/
def fnExactChangeFirstWrong : ChangeSpec := { name := "fnExactChangeFirst", fn := fun _ => fun
  | [d1, d2, d3] => { results := [.lit (.bool false)], args := [d1, d2, d3] }
  | _ => none }
def FnExactChangeFirstWrongFalsely : Prop := fnExactChangeFirstRow.holds Try.pinned (OpenSpec.ofChange fnExactChangeFirstWrong)

/-- 'laws.FnExactValidSided': WHATEVER THE INPUT: true; the input reads as it did. -/
def fnExactValidSidedSpec : ChangeSpec := { name := "fnExactValidSided", fn := fun _ => fun
  | [d] => { results := [.lit (.bool true)], args := [d] }
  | _ => none }
def fnExactValidSidedRow : OpenClaim := { program := "ytcmnhnapnnpbdaa", sum := "854d03e87a09f5edcd2367626bb78b924906a56d2aa279471be1b5e6bffa64f8", func := "loop.example/g01357/laws.FnExactValidSided", spec := "fnExactValidSided", plainKeys := false, apart := false }
def FnExactValidSidedSaid : Prop := fnExactValidSidedRow.holds Try.pinned (OpenSpec.ofChange fnExactValidSidedSpec)

/-- ITS FALSE NEIGHBOUR: 'it returns false'. Refute it at one input. -/
def fnExactValidSidedWrong : ChangeSpec := { name := "fnExactValidSided", fn := fun _ => fun
  | [d] => { results := [.lit (.bool false)], args := [d] }
  | _ => none }
def FnExactValidSidedWrongFalsely : Prop := fnExactValidSidedRow.holds Try.pinned (OpenSpec.ofChange fnExactValidSidedWrong)

/-- 'laws.FnExactSameSided': WHATEVER THE INPUT: true; the input reads as it did. -/
def fnExactSameSidedSpec : ChangeSpec := { name := "fnExactSameSided", fn := fun _ => fun
  | [d1, d2] => { results := [.lit (.bool true)], args := [d1, d2] }
  | _ => none }
def fnExactSameSidedRow : OpenClaim := { program := "ytcmnhnapnnpbdaa", sum := "854d03e87a09f5edcd2367626bb78b924906a56d2aa279471be1b5e6bffa64f8", func := "loop.example/g01357/laws.FnExactSameSided", spec := "fnExactSameSided", plainKeys := false, apart := false }
def FnExactSameSidedSaid : Prop := fnExactSameSidedRow.holds Try.pinned (OpenSpec.ofChange fnExactSameSidedSpec)

/-- ITS FALSE NEIGHBOUR: 'it returns false'. Refute it at one input. -/
def fnExactSameSidedWrong : ChangeSpec := { name := "fnExactSameSided", fn := fun _ => fun
  | [d1, d2] => { results := [.lit (.bool false)], args := [d1, d2] }
  | _ => none }
def FnExactSameSidedWrongFalsely : Prop := fnExactSameSidedRow.holds Try.pinned (OpenSpec.ofChange fnExactSameSidedWrong)

/-- 'laws.FnExactTurnSided': WHATEVER THE INPUT: true; the input reads as it did. -/
def fnExactTurnSidedSpec : ChangeSpec := { name := "fnExactTurnSided", fn := fun _ => fun
  | [d] => { results := [.lit (.bool true)], args := [d] }
  | _ => none }
def fnExactTurnSidedRow : OpenClaim := { program := "ytcmnhnapnnpbdaa", sum := "854d03e87a09f5edcd2367626bb78b924906a56d2aa279471be1b5e6bffa64f8", func := "loop.example/g01357/laws.FnExactTurnSided", spec := "fnExactTurnSided", plainKeys := false, apart := false }
def FnExactTurnSidedSaid : Prop := fnExactTurnSidedRow.holds Try.pinned (OpenSpec.ofChange fnExactTurnSidedSpec)

/-- ITS FALSE NEIGHBOUR: 'it returns false'. Refute it at one input. -/
def fnExactTurnSidedWrong : ChangeSpec := { name := "fnExactTurnSided", fn := fun _ => fun
  | [d] => { results := [.lit (.bool false)], args := [d] }
  | _ => none }
def FnExactTurnSidedWrongFalsely : Prop := fnExactTurnSidedRow.holds Try.pinned (OpenSpec.ofChange fnExactTurnSidedWrong)

/-- 'laws.FnExactReadsPair': WHATEVER THE INPUT: true; the input reads as it did. -/
def fnExactReadsPairSpec : ChangeSpec := { name := "fnExactReadsPair", fn := fun _ => fun
  | [d1, d2, d3] => { results := [.lit (.bool true)], args := [d1, d2, d3] }
  | _ => none }
def fnExactReadsPairRow : OpenClaim := { program := "ytcmnhnapnnpbdaa", sum := "854d03e87a09f5edcd2367626bb78b924906a56d2aa279471be1b5e6bffa64f8", func := "loop.example/g01357/laws.FnExactReadsPair", spec := "fnExactReadsPair", plainKeys := false, apart := false }
def FnExactReadsPairSaid : Prop := fnExactReadsPairRow.holds Try.pinned (OpenSpec.ofChange fnExactReadsPairSpec)

/-- ITS FALSE NEIGHBOUR: 'it returns false'. Refute it at one input. -/
def fnExactReadsPairWrong : ChangeSpec := { name := "fnExactReadsPair", fn := fun _ => fun
  | [d1, d2, d3] => { results := [.lit (.bool false)], args := [d1, d2, d3] }
  | _ => none }
def FnExactReadsPairWrongFalsely : Prop := fnExactReadsPairRow.holds Try.pinned (OpenSpec.ofChange fnExactReadsPairWrong)

/-- 'laws.FnExactPlacesOf': WHATEVER THE INPUT: true; the input reads as it did. -/
def fnExactPlacesOfSpec : ChangeSpec := { name := "fnExactPlacesOf", fn := fun _ => fun
  | [d1, d2, d3] => { results := [.lit (.bool true)], args := [d1, d2, d3] }
  | _ => none }
def fnExactPlacesOfRow : OpenClaim := { program := "ytcmnhnapnnpbdaa", sum := "854d03e87a09f5edcd2367626bb78b924906a56d2aa279471be1b5e6bffa64f8", func := "loop.example/g01357/laws.FnExactPlacesOf", spec := "fnExactPlacesOf", plainKeys := false, apart := false }
def FnExactPlacesOfSaid : Prop := fnExactPlacesOfRow.holds Try.pinned (OpenSpec.ofChange fnExactPlacesOfSpec)

/-- ITS FALSE NEIGHBOUR: 'it returns false'. Refute it at one input. -/
def fnExactPlacesOfWrong : ChangeSpec := { name := "fnExactPlacesOf", fn := fun _ => fun
  | [d1, d2, d3] => { results := [.lit (.bool false)], args := [d1, d2, d3] }
  | _ => none }
def FnExactPlacesOfWrongFalsely : Prop := fnExactPlacesOfRow.holds Try.pinned (OpenSpec.ofChange fnExactPlacesOfWrong)

/- THE SECOND FORM. 'bulk': how many values and letters a reading holds, each counted each time it is reached (what is shared counts as often as it is met; a slice's spare places count too). A statement '..UptoSaid' is the law's where the arguments, and the package variables that the reading takes, are together of bulk at most 1048576: NARROWER than '..Said'. Prove '..Said' where nothing that the law and all that it calls make is longer than what came in: it says more and counts as full. Else prove '..UptoSaid'. A law counts once. -/
mutual
def uptoBulk {H : Type} : DataW H → Nat
  | .lit (.string bytes) => bytes.length + 1
  | .lit _ => 1
  | .nil => 1
  | .ptr d => uptoBulk d + 1
  | .slice elems spare => uptoBulkAll elems + uptoBulkAll spare + 1
  | .agg parts => uptoBulkAll parts + 1
  | .iface _ d => uptoBulk d + 1
  | .map entries => uptoBulkEntries entries + 1
  | .held _ => 1
def uptoBulkAll {H : Type} : List (DataW H) → Nat
  | [] => 0
  | d :: r => uptoBulk d + uptoBulkAll r
def uptoBulkEntries {H : Type} : List (Lit × DataW H) → Nat
  | [] => 0
  | x :: r => uptoBulkEntry x + uptoBulkEntries r
def uptoBulkEntry {H : Type} : Lit × DataW H → Nat
  | (.string bytes, d) => bytes.length + uptoBulk d + 1
  | (_, d) => uptoBulk d + 1
 end
def uptoSmall : (H : Type) → List (DataW H) → Bool := fun _ ds => decide (uptoBulkAll ds ≤ 1048576)
def OpenSpec.upto (s : _root_.Go.ChangeSpec) : _root_.Go.OpenSpec := { _root_.Go.OpenSpec.ofChange s with cond := some uptoSmall }

/-- 'laws.FnExactSameChange', WHERE WHAT IT READS IS OF BULK AT MOST 1048576: true; the input reads as it did. -/
def fnExactSameChangeUptoRow : OpenClaim := { program := "ytcmnhnapnnpbdaa", sum := "854d03e87a09f5edcd2367626bb78b924906a56d2aa279471be1b5e6bffa64f8", func := "loop.example/g01357/laws.FnExactSameChange", spec := "fnExactSameChange", plainKeys := false, apart := false, narrowed := true }
def FnExactSameChangeUptoSaid : Prop := fnExactSameChangeUptoRow.holds Try.pinned (OpenSpec.upto fnExactSameChangeSpec)

/-- 'laws.FnExactValidChange', WHERE WHAT IT READS IS OF BULK AT MOST 1048576: true; the input reads as it did. -/
def fnExactValidChangeUptoRow : OpenClaim := { program := "ytcmnhnapnnpbdaa", sum := "854d03e87a09f5edcd2367626bb78b924906a56d2aa279471be1b5e6bffa64f8", func := "loop.example/g01357/laws.FnExactValidChange", spec := "fnExactValidChange", plainKeys := false, apart := false, narrowed := true }
def FnExactValidChangeUptoSaid : Prop := fnExactValidChangeUptoRow.holds Try.pinned (OpenSpec.upto fnExactValidChangeSpec)

/-- 'laws.FnExactWithFeatures', WHERE WHAT IT READS IS OF BULK AT MOST 1048576: true; the input reads as it did. -/
def fnExactWithFeaturesUptoRow : OpenClaim := { program := "ytcmnhnapnnpbdaa", sum := "854d03e87a09f5edcd2367626bb78b924906a56d2aa279471be1b5e6bffa64f8", func := "loop.example/g01357/laws.FnExactWithFeatures", spec := "fnExactWithFeatures", plainKeys := false, apart := false, narrowed := true }
def FnExactWithFeaturesUptoSaid : Prop := fnExactWithFeaturesUptoRow.holds Try.pinned (OpenSpec.upto fnExactWithFeaturesSpec)

/-- 'laws.FnExactShiftFeatures', WHERE WHAT IT READS IS OF BULK AT MOST 1048576: true; the input reads as it did. -/
def fnExactShiftFeaturesUptoRow : OpenClaim := { program := "ytcmnhnapnnpbdaa", sum := "854d03e87a09f5edcd2367626bb78b924906a56d2aa279471be1b5e6bffa64f8", func := "loop.example/g01357/laws.FnExactShiftFeatures", spec := "fnExactShiftFeatures", plainKeys := false, apart := false, narrowed := true }
def FnExactShiftFeaturesUptoSaid : Prop := fnExactShiftFeaturesUptoRow.holds Try.pinned (OpenSpec.upto fnExactShiftFeaturesSpec)

/-- 'laws.FnExactChangeAll', WHERE WHAT IT READS IS OF BULK AT MOST 1048576: true; the input reads as it did. -/
def fnExactChangeAllUptoRow : OpenClaim := { program := "ytcmnhnapnnpbdaa", sum := "854d03e87a09f5edcd2367626bb78b924906a56d2aa279471be1b5e6bffa64f8", func := "loop.example/g01357/laws.FnExactChangeAll", spec := "fnExactChangeAll", plainKeys := false, apart := false, narrowed := true }
def FnExactChangeAllUptoSaid : Prop := fnExactChangeAllUptoRow.holds Try.pinned (OpenSpec.upto fnExactChangeAllSpec)

/-- 'laws.FnExactChangeFirst', WHERE WHAT IT READS IS OF BULK AT MOST 1048576: true; the input reads as it did. -/
def fnExactChangeFirstUptoRow : OpenClaim := { program := "ytcmnhnapnnpbdaa", sum := "854d03e87a09f5edcd2367626bb78b924906a56d2aa279471be1b5e6bffa64f8", func := "loop.example/g01357/laws.FnExactChangeFirst", spec := "fnExactChangeFirst", plainKeys := false, apart := false, narrowed := true }
def FnExactChangeFirstUptoSaid : Prop := fnExactChangeFirstUptoRow.holds Try.pinned (OpenSpec.upto fnExactChangeFirstSpec)

/-- 'laws.FnExactValidSided', WHERE WHAT IT READS IS OF BULK AT MOST 1048576: true; the input reads as it did. -/
def fnExactValidSidedUptoRow : OpenClaim := { program := "ytcmnhnapnnpbdaa", sum := "854d03e87a09f5edcd2367626bb78b924906a56d2aa279471be1b5e6bffa64f8", func := "loop.example/g01357/laws.FnExactValidSided", spec := "fnExactValidSided", plainKeys := false, apart := false, narrowed := true }
def FnExactValidSidedUptoSaid : Prop := fnExactValidSidedUptoRow.holds Try.pinned (OpenSpec.upto fnExactValidSidedSpec)

/-- 'laws.FnExactSameSided', WHERE WHAT IT READS IS OF BULK AT MOST 1048576: true; the input reads as it did. -/
def fnExactSameSidedUptoRow : OpenClaim := { program := "ytcmnhnapnnpbdaa", sum := "854d03e87a09f5edcd2367626bb78b924906a56d2aa279471be1b5e6bffa64f8", func := "loop.example/g01357/laws.FnExactSameSided", spec := "fnExactSameSided", plainKeys := false, apart := false, narrowed := true }
def FnExactSameSidedUptoSaid : Prop := fnExactSameSidedUptoRow.holds Try.pinned (OpenSpec.upto fnExactSameSidedSpec)

/-- 'laws.FnExactTurnSided', WHERE WHAT IT READS IS OF BULK AT MOST 1048576: true; the input reads as it did. -/
def fnExactTurnSidedUptoRow : OpenClaim := { program := "ytcmnhnapnnpbdaa", sum := "854d03e87a09f5edcd2367626bb78b924906a56d2aa279471be1b5e6bffa64f8", func := "loop.example/g01357/laws.FnExactTurnSided", spec := "fnExactTurnSided", plainKeys := false, apart := false, narrowed := true }
def FnExactTurnSidedUptoSaid : Prop := fnExactTurnSidedUptoRow.holds Try.pinned (OpenSpec.upto fnExactTurnSidedSpec)

/-- 'laws.FnExactReadsPair', WHERE WHAT IT READS IS OF BULK AT MOST 1048576: true; the input reads as it did. -/
def fnExactReadsPairUptoRow : OpenClaim := { program := "ytcmnhnapnnpbdaa", sum := "854d03e87a09f5edcd2367626bb78b924906a56d2aa279471be1b5e6bffa64f8", func := "loop.example/g01357/laws.FnExactReadsPair", spec := "fnExactReadsPair", plainKeys := false, apart := false, narrowed := true }
def FnExactReadsPairUptoSaid : Prop := fnExactReadsPairUptoRow.holds Try.pinned (OpenSpec.upto fnExactReadsPairSpec)

/-- 'laws.FnExactPlacesOf', WHERE WHAT IT READS IS OF BULK AT MOST 1048576: true; the input reads as it did. -/
def fnExactPlacesOfUptoRow : OpenClaim := { program := "ytcmnhnapnnpbdaa", sum := "854d03e87a09f5edcd2367626bb78b924906a56d2aa279471be1b5e6bffa64f8", func := "loop.example/g01357/laws.FnExactPlacesOf", spec := "fnExactPlacesOf", plainKeys := false, apart := false, narrowed := true }
def FnExactPlacesOfUptoSaid : Prop := fnExactPlacesOfUptoRow.holds Try.pinned (OpenSpec.upto fnExactPlacesOfSpec)

end Rows
end Go.Proofs.Ytcmnhnapnnpbdaa
