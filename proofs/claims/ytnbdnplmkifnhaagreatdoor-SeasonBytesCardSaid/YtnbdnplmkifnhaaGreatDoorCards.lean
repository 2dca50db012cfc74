/-
  DERIVED. GIVEN WITH THE SEED: THE CARDS: each row of YtnbdnplmkifnhaaGreatDoorRows.lean that lists a variable, with what it lists TIED to the program's text (the seventh form; the later family's looks); each row that meets fmt, with fmt's text TOLD by the authors' own Lean function (tested against real Go, not proved from fmt's source: count such statements apart). THE CARD IS WHAT COUNTS. Prove the row's statement (the work); the ties are given (YtnbdnplmkifnhaaGreatDoorTie.lean); close each card by the builder's one call (the guide's Derived/Test/ToyasCard.lean, 'card_holds'). Laid BY PROGRAM, IN A SANDBOX (cutbox-door.mjs). By AI agents, Wed Nov 11 2026. No macro, syntax, notation, axiom, sorry.
-/
import Derived.Test.YtnbdnplmkifnhaaGreatDoorRows
import GoSem.ClaimSeven
namespace Go.Proofs.YtnbdnplmkifnhaaGreatDoor
namespace Rows

/-- THE TIED CARD OF 'bivouaclaw12.SeasonBytes'. -/
def seasonBytesCard : Claim7 := { stood := { row := seasonBytesRow, standIns := [], harness := (true, "95f993dfaef86fbe34c95bc1d4258d46a7f4b5a283cb276a5ee18ebfdb09c170"), looks := true }, kinds := [], alts := [], laidByText := true, laidKinds := [.data, .data, .data, .data, .sentinel, .sentinel, .pinned], laidTests := true, laidLooks := .later }
def SeasonBytesCardSaid : Prop := Claim7.holds Tryz.pinned (.plain (OpenSpec.ofChange seasonBytesSpec)) seasonBytesCard

/-- THE TIED CARD OF 'bivouaclaw12.SeasonFiles'. -/
def seasonFilesCard : Claim7 := { stood := { row := seasonFilesRow, standIns := [], harness := (true, "95f993dfaef86fbe34c95bc1d4258d46a7f4b5a283cb276a5ee18ebfdb09c170"), looks := true }, kinds := [], alts := [], laidByText := true, laidKinds := [.data, .data, .data, .data, .sentinel, .sentinel, .pinned], laidTests := true, laidLooks := .later }
def SeasonFilesCardSaid : Prop := Claim7.holds Tryz.pinned (.plain (OpenSpec.ofChange seasonFilesSpec)) seasonFilesCard

/-- THE SECOND FORM's CARD OF 'bivouaclaw12.SeasonBytes'. -/
def seasonBytesUptoCard : Claim7 := { stood := { row := seasonBytesUptoRow, standIns := [], harness := (true, "95f993dfaef86fbe34c95bc1d4258d46a7f4b5a283cb276a5ee18ebfdb09c170"), looks := true }, kinds := [], alts := [], laidByText := true, laidKinds := [.data, .data, .data, .data, .sentinel, .sentinel, .pinned], laidTests := true, laidLooks := .later }
def SeasonBytesUptoCardSaid : Prop := Claim7.holds Tryz.pinned (.plain (OpenSpec.upto seasonBytesSpec)) seasonBytesUptoCard

/-- THE SECOND FORM's CARD OF 'bivouaclaw12.SeasonFiles'. -/
def seasonFilesUptoCard : Claim7 := { stood := { row := seasonFilesUptoRow, standIns := [], harness := (true, "95f993dfaef86fbe34c95bc1d4258d46a7f4b5a283cb276a5ee18ebfdb09c170"), looks := true }, kinds := [], alts := [], laidByText := true, laidKinds := [.data, .data, .data, .data, .sentinel, .sentinel, .pinned], laidTests := true, laidLooks := .later }
def SeasonFilesUptoCardSaid : Prop := Claim7.holds Tryz.pinned (.plain (OpenSpec.upto seasonFilesSpec)) seasonFilesUptoCard
end Rows
end Go.Proofs.YtnbdnplmkifnhaaGreatDoor
