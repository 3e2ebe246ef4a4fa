/-
  DERIVED. GIVEN WITH THE SEED: THE CARDS: each row of YthplgehdgaeapaaDoorRows.lean that lists a variable, with what it lists TIED to the program's text (the seventh form; the later family's looks); each row that meets fmt, with fmt's text TOLD by the authors' own Lean function (tested against real Go, not proved from fmt's source: count such statements apart). THE CARD IS WHAT COUNTS. Prove the row's statement (the work); the ties are given (YthplgehdgaeapaaDoorTie.lean); close each card by the builder's one call (the guide's Derived/Test/ToyasCard.lean, 'card_holds'). Laid BY PROGRAM, IN A SANDBOX (cutbox-door.mjs). By AI agents, Wed Nov 11 2026. No macro, syntax, notation, axiom, sorry.
-/
import Derived.Test.YthplgehdgaeapaaDoorRows
import GoSem.ClaimSeven
namespace Go.Proofs.YthplgehdgaeapaaDoor
namespace Rows

/-- THE TIED CARD OF 'laws.FnExactAssemble'. -/
def fnExactAssembleCard : Claim7 := { stood := { row := fnExactAssembleRow, standIns := [], harness := (true, "fb91fdb2ad5fef575784b493bcdad13b208fc040aff7c782c045217af92aa5e2"), looks := true }, kinds := [], alts := [], laidByText := true, laidKinds := [.data, .data, .data, .sentinel, .sentinel], laidTests := true, laidLooks := .later }
def FnExactAssembleCardSaid : Prop := Claim7.holds Tryd.pinned (.plain (OpenSpec.ofChange fnExactAssembleSpec)) fnExactAssembleCard

/-- THE TIED CARD OF 'laws.FnExactFormatOrder'. -/
def fnExactFormatOrderCard : Claim7 := { stood := { row := fnExactFormatOrderRow, standIns := [], harness := (true, "fb91fdb2ad5fef575784b493bcdad13b208fc040aff7c782c045217af92aa5e2"), looks := true }, kinds := [], alts := [], laidByText := true, laidKinds := [.data, .data, .data], laidTests := true, laidLooks := .later }
def FnExactFormatOrderCardSaid : Prop := Claim7.holds Tryd.pinned (.plain (OpenSpec.ofChange fnExactFormatOrderSpec)) fnExactFormatOrderCard

/-- THE TIED CARD OF 'laws.FnExactDisassemble'. -/
def fnExactDisassembleCard : Claim7 := { stood := { row := fnExactDisassembleRow, standIns := [], harness := (true, "fb91fdb2ad5fef575784b493bcdad13b208fc040aff7c782c045217af92aa5e2"), looks := true }, kinds := [], alts := [], laidByText := true, laidKinds := [.data, .data, .data], laidTests := true, laidLooks := .later }
def FnExactDisassembleCardSaid : Prop := Claim7.holds Tryd.pinned (.plain (OpenSpec.ofChange fnExactDisassembleSpec)) fnExactDisassembleCard

/-- THE TIED CARD OF 'laws.FnExactParseOrder'. -/
def fnExactParseOrderCard : Claim7 := { stood := { row := fnExactParseOrderRow, standIns := [], harness := (true, "fb91fdb2ad5fef575784b493bcdad13b208fc040aff7c782c045217af92aa5e2"), looks := true }, kinds := [], alts := [], laidByText := true, laidKinds := [.data, .data, .data, .sentinel, .sentinel], laidTests := true, laidLooks := .later }
def FnExactParseOrderCardSaid : Prop := Claim7.holds Tryd.pinned (.plain (OpenSpec.ofChange fnExactParseOrderSpec)) fnExactParseOrderCard

/-- THE TIED CARD OF 'laws.FnAssemble'. -/
def fnAssembleCard : Claim7 := { stood := { row := fnAssembleRow, standIns := [], harness := (true, "fb91fdb2ad5fef575784b493bcdad13b208fc040aff7c782c045217af92aa5e2"), looks := true }, kinds := [], alts := [], laidByText := true, laidKinds := [.data, .data, .data, .sentinel, .sentinel], laidTests := true, laidLooks := .later }
def FnAssembleCardSaid : Prop := Claim7.holds Tryd.pinned (.plain (OpenSpec.ofChange fnAssembleSpec)) fnAssembleCard

/-- THE TIED CARD OF 'laws.FnDisassemble'. -/
def fnDisassembleCard : Claim7 := { stood := { row := fnDisassembleRow, standIns := [], harness := (true, "fb91fdb2ad5fef575784b493bcdad13b208fc040aff7c782c045217af92aa5e2"), looks := true }, kinds := [], alts := [], laidByText := true, laidKinds := [.data, .data, .data, .sentinel, .sentinel], laidTests := true, laidLooks := .later }
def FnDisassembleCardSaid : Prop := Claim7.holds Tryd.pinned (.plain (OpenSpec.ofChange fnDisassembleSpec)) fnDisassembleCard

/-- THE TIED CARD OF 'laws.FnFormatOrder'. -/
def fnFormatOrderCard : Claim7 := { stood := { row := fnFormatOrderRow, standIns := [], harness := (true, "fb91fdb2ad5fef575784b493bcdad13b208fc040aff7c782c045217af92aa5e2"), looks := true }, kinds := [], alts := [], laidByText := true, laidKinds := [.data, .data, .data, .sentinel, .sentinel], laidTests := true, laidLooks := .later }
def FnFormatOrderCardSaid : Prop := Claim7.holds Tryd.pinned (.plain (OpenSpec.ofChange fnFormatOrderSpec)) fnFormatOrderCard

/-- THE TIED CARD OF 'laws.FnParseOrder'. -/
def fnParseOrderCard : Claim7 := { stood := { row := fnParseOrderRow, standIns := [], harness := (true, "fb91fdb2ad5fef575784b493bcdad13b208fc040aff7c782c045217af92aa5e2"), looks := true }, kinds := [], alts := [], laidByText := true, laidKinds := [.data, .data, .data, .sentinel, .sentinel], laidTests := true, laidLooks := .later }
def FnParseOrderCardSaid : Prop := Claim7.holds Tryd.pinned (.plain (OpenSpec.ofChange fnParseOrderSpec)) fnParseOrderCard

/-- THE SECOND FORM's CARD OF 'laws.FnExactAssemble'. -/
def fnExactAssembleUptoCard : Claim7 := { stood := { row := fnExactAssembleUptoRow, standIns := [], harness := (true, "fb91fdb2ad5fef575784b493bcdad13b208fc040aff7c782c045217af92aa5e2"), looks := true }, kinds := [], alts := [], laidByText := true, laidKinds := [.data, .data, .data, .sentinel, .sentinel], laidTests := true, laidLooks := .later }
def FnExactAssembleUptoCardSaid : Prop := Claim7.holds Tryd.pinned (.plain (OpenSpec.upto fnExactAssembleSpec)) fnExactAssembleUptoCard

/-- THE SECOND FORM's CARD OF 'laws.FnExactFormatOrder'. -/
def fnExactFormatOrderUptoCard : Claim7 := { stood := { row := fnExactFormatOrderUptoRow, standIns := [], harness := (true, "fb91fdb2ad5fef575784b493bcdad13b208fc040aff7c782c045217af92aa5e2"), looks := true }, kinds := [], alts := [], laidByText := true, laidKinds := [.data, .data, .data], laidTests := true, laidLooks := .later }
def FnExactFormatOrderUptoCardSaid : Prop := Claim7.holds Tryd.pinned (.plain (OpenSpec.upto fnExactFormatOrderSpec)) fnExactFormatOrderUptoCard

/-- THE SECOND FORM's CARD OF 'laws.FnExactDisassemble'. -/
def fnExactDisassembleUptoCard : Claim7 := { stood := { row := fnExactDisassembleUptoRow, standIns := [], harness := (true, "fb91fdb2ad5fef575784b493bcdad13b208fc040aff7c782c045217af92aa5e2"), looks := true }, kinds := [], alts := [], laidByText := true, laidKinds := [.data, .data, .data], laidTests := true, laidLooks := .later }
def FnExactDisassembleUptoCardSaid : Prop := Claim7.holds Tryd.pinned (.plain (OpenSpec.upto fnExactDisassembleSpec)) fnExactDisassembleUptoCard

/-- THE SECOND FORM's CARD OF 'laws.FnExactParseOrder'. -/
def fnExactParseOrderUptoCard : Claim7 := { stood := { row := fnExactParseOrderUptoRow, standIns := [], harness := (true, "fb91fdb2ad5fef575784b493bcdad13b208fc040aff7c782c045217af92aa5e2"), looks := true }, kinds := [], alts := [], laidByText := true, laidKinds := [.data, .data, .data, .sentinel, .sentinel], laidTests := true, laidLooks := .later }
def FnExactParseOrderUptoCardSaid : Prop := Claim7.holds Tryd.pinned (.plain (OpenSpec.upto fnExactParseOrderSpec)) fnExactParseOrderUptoCard

/-- THE SECOND FORM's CARD OF 'laws.FnAssemble'. -/
def fnAssembleUptoCard : Claim7 := { stood := { row := fnAssembleUptoRow, standIns := [], harness := (true, "fb91fdb2ad5fef575784b493bcdad13b208fc040aff7c782c045217af92aa5e2"), looks := true }, kinds := [], alts := [], laidByText := true, laidKinds := [.data, .data, .data, .sentinel, .sentinel], laidTests := true, laidLooks := .later }
def FnAssembleUptoCardSaid : Prop := Claim7.holds Tryd.pinned (.plain (OpenSpec.upto fnAssembleSpec)) fnAssembleUptoCard

/-- THE SECOND FORM's CARD OF 'laws.FnDisassemble'. -/
def fnDisassembleUptoCard : Claim7 := { stood := { row := fnDisassembleUptoRow, standIns := [], harness := (true, "fb91fdb2ad5fef575784b493bcdad13b208fc040aff7c782c045217af92aa5e2"), looks := true }, kinds := [], alts := [], laidByText := true, laidKinds := [.data, .data, .data, .sentinel, .sentinel], laidTests := true, laidLooks := .later }
def FnDisassembleUptoCardSaid : Prop := Claim7.holds Tryd.pinned (.plain (OpenSpec.upto fnDisassembleSpec)) fnDisassembleUptoCard

/-- THE SECOND FORM's CARD OF 'laws.FnFormatOrder'. -/
def fnFormatOrderUptoCard : Claim7 := { stood := { row := fnFormatOrderUptoRow, standIns := [], harness := (true, "fb91fdb2ad5fef575784b493bcdad13b208fc040aff7c782c045217af92aa5e2"), looks := true }, kinds := [], alts := [], laidByText := true, laidKinds := [.data, .data, .data, .sentinel, .sentinel], laidTests := true, laidLooks := .later }
def FnFormatOrderUptoCardSaid : Prop := Claim7.holds Tryd.pinned (.plain (OpenSpec.upto fnFormatOrderSpec)) fnFormatOrderUptoCard

/-- THE SECOND FORM's CARD OF 'laws.FnParseOrder'. -/
def fnParseOrderUptoCard : Claim7 := { stood := { row := fnParseOrderUptoRow, standIns := [], harness := (true, "fb91fdb2ad5fef575784b493bcdad13b208fc040aff7c782c045217af92aa5e2"), looks := true }, kinds := [], alts := [], laidByText := true, laidKinds := [.data, .data, .data, .sentinel, .sentinel], laidTests := true, laidLooks := .later }
def FnParseOrderUptoCardSaid : Prop := Claim7.holds Tryd.pinned (.plain (OpenSpec.upto fnParseOrderSpec)) fnParseOrderUptoCard
end Rows
end Go.Proofs.YthplgehdgaeapaaDoor
