/-
  DERIVED. GIVEN WITH THE SEED: THE CARDS: each row of YtpmklldochpnlaaDoorRows.lean that lists a variable, with what it lists TIED to the program's text (the seventh form; the later family's looks); each row that meets fmt, with fmt's text TOLD by the authors' own Lean function (tested against real Go, not proved from fmt's source: count such statements apart). THE CARD IS WHAT COUNTS. Prove the row's statement (the work); the ties are given (YtpmklldochpnlaaDoorTie.lean); close each card by the builder's one call (the guide's Derived/Test/ToyasCard.lean, 'card_holds'). Laid BY PROGRAM, IN A SANDBOX (cutbox-door.mjs). By AI agents, Wed Nov 11 2026. No macro, syntax, notation, axiom, sorry.
-/
import Derived.Test.YtpmklldochpnlaaDoorRows
import GoSem.ClaimSeven
namespace Go.Proofs.YtpmklldochpnlaaDoor
namespace Rows

/-- THE TIED CARD OF 'laws.FnExactPackText'. -/
def fnExactPackTextCard : Claim7 := { stood := { row := fnExactPackTextRow, standIns := [], harness := (true, "bbce608352bebb4feb38d834b91024eb7437a2c3a7433751d930d92054b9f8e8"), looks := false }, kinds := [], alts := [], laidByText := true, laidKinds := [.data, .data, .data], laidTests := true, laidLooks := .later }
def FnExactPackTextCardSaid : Prop := Claim7.holds Tryd.pinned (.plain (OpenSpec.ofChange fnExactPackTextSpec)) fnExactPackTextCard

/-- THE TIED CARD OF 'laws.FnExactUnpackText'. -/
def fnExactUnpackTextCard : Claim7 := { stood := { row := fnExactUnpackTextRow, standIns := [], harness := (true, "bbce608352bebb4feb38d834b91024eb7437a2c3a7433751d930d92054b9f8e8"), looks := false }, kinds := [], alts := [], laidByText := true, laidKinds := [.data, .data, .data], laidTests := true, laidLooks := .later }
def FnExactUnpackTextCardSaid : Prop := Claim7.holds Tryd.pinned (.plain (OpenSpec.ofChange fnExactUnpackTextSpec)) fnExactUnpackTextCard

/-- THE TIED CARD OF 'laws.FnTold'. -/
def fnToldCard : Claim7 := { stood := { row := fnToldRow, standIns := [], harness := (true, "bbce608352bebb4feb38d834b91024eb7437a2c3a7433751d930d92054b9f8e8"), looks := false }, kinds := [], alts := [], laidByText := true, laidKinds := [.data, .data, .data], laidTests := true, laidLooks := .later }
def FnToldCardSaid : Prop := Claim7.holds Tryd.pinned (.plain (OpenSpec.ofChange fnToldSpec)) fnToldCard

/-- THE SECOND FORM's CARD OF 'laws.FnExactPackText'. -/
def fnExactPackTextUptoCard : Claim7 := { stood := { row := fnExactPackTextUptoRow, standIns := [], harness := (true, "bbce608352bebb4feb38d834b91024eb7437a2c3a7433751d930d92054b9f8e8"), looks := false }, kinds := [], alts := [], laidByText := true, laidKinds := [.data, .data, .data], laidTests := true, laidLooks := .later }
def FnExactPackTextUptoCardSaid : Prop := Claim7.holds Tryd.pinned (.plain (OpenSpec.upto fnExactPackTextSpec)) fnExactPackTextUptoCard

/-- THE SECOND FORM's CARD OF 'laws.FnExactUnpackText'. -/
def fnExactUnpackTextUptoCard : Claim7 := { stood := { row := fnExactUnpackTextUptoRow, standIns := [], harness := (true, "bbce608352bebb4feb38d834b91024eb7437a2c3a7433751d930d92054b9f8e8"), looks := false }, kinds := [], alts := [], laidByText := true, laidKinds := [.data, .data, .data], laidTests := true, laidLooks := .later }
def FnExactUnpackTextUptoCardSaid : Prop := Claim7.holds Tryd.pinned (.plain (OpenSpec.upto fnExactUnpackTextSpec)) fnExactUnpackTextUptoCard

/-- THE SECOND FORM's CARD OF 'laws.FnTold'. -/
def fnToldUptoCard : Claim7 := { stood := { row := fnToldUptoRow, standIns := [], harness := (true, "bbce608352bebb4feb38d834b91024eb7437a2c3a7433751d930d92054b9f8e8"), looks := false }, kinds := [], alts := [], laidByText := true, laidKinds := [.data, .data, .data], laidTests := true, laidLooks := .later }
def FnToldUptoCardSaid : Prop := Claim7.holds Tryd.pinned (.plain (OpenSpec.upto fnToldSpec)) fnToldUptoCard
end Rows
end Go.Proofs.YtpmklldochpnlaaDoor
