/-
  DERIVED. GIVEN WITH THE SEED: THE CARDS: each row of YtniihjhlkpjnoaaDoorRows.lean that lists a variable, with what it lists TIED to the program's text (the seventh form; the later family's looks); each row that meets fmt, with fmt's text TOLD by the authors' own Lean function (tested against real Go, not proved from fmt's source: count such statements apart). THE CARD IS WHAT COUNTS. Prove the row's statement (the work); the ties are given (YtniihjhlkpjnoaaDoorTie.lean); close each card by the builder's one call (the guide's Derived/Test/ToyasCard.lean, 'card_holds'). Laid BY PROGRAM, IN A SANDBOX (cutbox-door.mjs). By AI agents, Wed Nov 11 2026. No macro, syntax, notation, axiom, sorry.
-/
import Derived.Test.YtniihjhlkpjnoaaDoorRows
import GoSem.ClaimSeven
namespace Go.Proofs.YtniihjhlkpjnoaaDoor
namespace Rows

/-- THE TIED CARD OF 'mjolnerlaw04.LexPieces'. -/
def lexPiecesCard : Claim7 := { stood := { row := lexPiecesRow, standIns := [], harness := (true, "03a70dbf6da9a95e61974d59fc3ce40d4e4fdf851d19c93061d96a2ed084ac90"), looks := true }, kinds := [], alts := [], laidByText := true, laidKinds := [.data, .listed, .data, .pinned], laidTests := true, laidLooks := .later }
def LexPiecesCardSaid : Prop := Claim7.holds Tryd.pinned (.plain (OpenSpec.ofChange lexPiecesSpec)) lexPiecesCard

/-- THE TIED CARD OF 'mjolnerlaw04.LexSettles'. -/
def lexSettlesCard : Claim7 := { stood := { row := lexSettlesRow, standIns := [], harness := (true, "03a70dbf6da9a95e61974d59fc3ce40d4e4fdf851d19c93061d96a2ed084ac90"), looks := true }, kinds := [], alts := [], laidByText := true, laidKinds := [.data, .listed, .data, .pinned], laidTests := true, laidLooks := .later }
def LexSettlesCardSaid : Prop := Claim7.holds Tryd.pinned (.plain (OpenSpec.ofChange lexSettlesSpec)) lexSettlesCard

/-- THE TIED CARD OF 'mjolnerlaw04.LexCovers'. -/
def lexCoversCard : Claim7 := { stood := { row := lexCoversRow, standIns := [], harness := (true, "03a70dbf6da9a95e61974d59fc3ce40d4e4fdf851d19c93061d96a2ed084ac90"), looks := true }, kinds := [], alts := [], laidByText := true, laidKinds := [.data, .listed, .data, .pinned], laidTests := true, laidLooks := .later }
def LexCoversCardSaid : Prop := Claim7.holds Tryd.pinned (.plain (OpenSpec.ofChange lexCoversSpec)) lexCoversCard

/-- THE TIED CARD OF 'mjolnerlaw04.LexPrints'. -/
def lexPrintsCard : Claim7 := { stood := { row := lexPrintsRow, standIns := [], harness := (true, "03a70dbf6da9a95e61974d59fc3ce40d4e4fdf851d19c93061d96a2ed084ac90"), looks := true }, kinds := [], alts := [], laidByText := true, laidKinds := [.data, .listed, .data, .pinned], laidTests := true, laidLooks := .later }
def LexPrintsCardSaid : Prop := Claim7.holds Tryd.pinned (.plain (OpenSpec.ofChange lexPrintsSpec)) lexPrintsCard

/-- THE TIED CARD OF 'mjolnerlaw04.LexTouches'. -/
def lexTouchesCard : Claim7 := { stood := { row := lexTouchesRow, standIns := [], harness := (true, "03a70dbf6da9a95e61974d59fc3ce40d4e4fdf851d19c93061d96a2ed084ac90"), looks := true }, kinds := [], alts := [], laidByText := true, laidKinds := [.data, .listed, .data, .pinned], laidTests := true, laidLooks := .later }
def LexTouchesCardSaid : Prop := Claim7.holds Tryd.pinned (.plain (OpenSpec.ofChange lexTouchesSpec)) lexTouchesCard

/-- THE TIED CARD OF 'mjolnerlaw04.LexStays'. -/
def lexStaysCard : Claim7 := { stood := { row := lexStaysRow, standIns := [], harness := (true, "03a70dbf6da9a95e61974d59fc3ce40d4e4fdf851d19c93061d96a2ed084ac90"), looks := true }, kinds := [], alts := [], laidByText := true, laidKinds := [.data, .listed, .data, .pinned], laidTests := true, laidLooks := .later }
def LexStaysCardSaid : Prop := Claim7.holds Tryd.pinned (.plain (OpenSpec.ofChange lexStaysSpec)) lexStaysCard

/-- THE TIED CARD OF 'mjolnerlaw04.LexVeils'. -/
def lexVeilsCard : Claim7 := { stood := { row := lexVeilsRow, standIns := [], harness := (true, "03a70dbf6da9a95e61974d59fc3ce40d4e4fdf851d19c93061d96a2ed084ac90"), looks := true }, kinds := [], alts := [], laidByText := true, laidKinds := [.data, .listed, .data, .pinned], laidTests := true, laidLooks := .later }
def LexVeilsCardSaid : Prop := Claim7.holds Tryd.pinned (.plain (OpenSpec.ofChange lexVeilsSpec)) lexVeilsCard

/-- THE SECOND FORM's CARD OF 'mjolnerlaw04.LexPieces'. -/
def lexPiecesUptoCard : Claim7 := { stood := { row := lexPiecesUptoRow, standIns := [], harness := (true, "03a70dbf6da9a95e61974d59fc3ce40d4e4fdf851d19c93061d96a2ed084ac90"), looks := true }, kinds := [], alts := [], laidByText := true, laidKinds := [.data, .listed, .data, .pinned], laidTests := true, laidLooks := .later }
def LexPiecesUptoCardSaid : Prop := Claim7.holds Tryd.pinned (.plain (OpenSpec.upto lexPiecesSpec)) lexPiecesUptoCard

/-- THE SECOND FORM's CARD OF 'mjolnerlaw04.LexSettles'. -/
def lexSettlesUptoCard : Claim7 := { stood := { row := lexSettlesUptoRow, standIns := [], harness := (true, "03a70dbf6da9a95e61974d59fc3ce40d4e4fdf851d19c93061d96a2ed084ac90"), looks := true }, kinds := [], alts := [], laidByText := true, laidKinds := [.data, .listed, .data, .pinned], laidTests := true, laidLooks := .later }
def LexSettlesUptoCardSaid : Prop := Claim7.holds Tryd.pinned (.plain (OpenSpec.upto lexSettlesSpec)) lexSettlesUptoCard

/-- THE SECOND FORM's CARD OF 'mjolnerlaw04.LexCovers'. -/
def lexCoversUptoCard : Claim7 := { stood := { row := lexCoversUptoRow, standIns := [], harness := (true, "03a70dbf6da9a95e61974d59fc3ce40d4e4fdf851d19c93061d96a2ed084ac90"), looks := true }, kinds := [], alts := [], laidByText := true, laidKinds := [.data, .listed, .data, .pinned], laidTests := true, laidLooks := .later }
def LexCoversUptoCardSaid : Prop := Claim7.holds Tryd.pinned (.plain (OpenSpec.upto lexCoversSpec)) lexCoversUptoCard

/-- THE SECOND FORM's CARD OF 'mjolnerlaw04.LexPrints'. -/
def lexPrintsUptoCard : Claim7 := { stood := { row := lexPrintsUptoRow, standIns := [], harness := (true, "03a70dbf6da9a95e61974d59fc3ce40d4e4fdf851d19c93061d96a2ed084ac90"), looks := true }, kinds := [], alts := [], laidByText := true, laidKinds := [.data, .listed, .data, .pinned], laidTests := true, laidLooks := .later }
def LexPrintsUptoCardSaid : Prop := Claim7.holds Tryd.pinned (.plain (OpenSpec.upto lexPrintsSpec)) lexPrintsUptoCard

/-- THE SECOND FORM's CARD OF 'mjolnerlaw04.LexTouches'. -/
def lexTouchesUptoCard : Claim7 := { stood := { row := lexTouchesUptoRow, standIns := [], harness := (true, "03a70dbf6da9a95e61974d59fc3ce40d4e4fdf851d19c93061d96a2ed084ac90"), looks := true }, kinds := [], alts := [], laidByText := true, laidKinds := [.data, .listed, .data, .pinned], laidTests := true, laidLooks := .later }
def LexTouchesUptoCardSaid : Prop := Claim7.holds Tryd.pinned (.plain (OpenSpec.upto lexTouchesSpec)) lexTouchesUptoCard

/-- THE SECOND FORM's CARD OF 'mjolnerlaw04.LexStays'. -/
def lexStaysUptoCard : Claim7 := { stood := { row := lexStaysUptoRow, standIns := [], harness := (true, "03a70dbf6da9a95e61974d59fc3ce40d4e4fdf851d19c93061d96a2ed084ac90"), looks := true }, kinds := [], alts := [], laidByText := true, laidKinds := [.data, .listed, .data, .pinned], laidTests := true, laidLooks := .later }
def LexStaysUptoCardSaid : Prop := Claim7.holds Tryd.pinned (.plain (OpenSpec.upto lexStaysSpec)) lexStaysUptoCard

/-- THE SECOND FORM's CARD OF 'mjolnerlaw04.LexVeils'. -/
def lexVeilsUptoCard : Claim7 := { stood := { row := lexVeilsUptoRow, standIns := [], harness := (true, "03a70dbf6da9a95e61974d59fc3ce40d4e4fdf851d19c93061d96a2ed084ac90"), looks := true }, kinds := [], alts := [], laidByText := true, laidKinds := [.data, .listed, .data, .pinned], laidTests := true, laidLooks := .later }
def LexVeilsUptoCardSaid : Prop := Claim7.holds Tryd.pinned (.plain (OpenSpec.upto lexVeilsSpec)) lexVeilsUptoCard
end Rows
end Go.Proofs.YtniihjhlkpjnoaaDoor
