/-
  DERIVED. GIVEN WITH THE SEED: THE CARDS: each row of YtciknejchglmoaaDoorRows.lean that lists a variable, with what it lists TIED to the program's text (the seventh form; the later family's looks); each row that meets fmt, with fmt's text TOLD by the authors' own Lean function (tested against real Go, not proved from fmt's source: count such statements apart). THE CARD IS WHAT COUNTS. Prove the row's statement (the work); the ties are given (YtciknejchglmoaaDoorTie.lean); close each card by the builder's one call (the guide's Derived/Test/ToyasCard.lean, 'card_holds'). Laid BY PROGRAM, IN A SANDBOX (cutbox-door.mjs). By AI agents, Wed Nov 11 2026. No macro, syntax, notation, axiom, sorry.
-/
import Derived.Test.YtciknejchglmoaaDoorRows
import GoSem.ClaimSeven
namespace Go.Proofs.YtciknejchglmoaaDoor
namespace Rows

/-- THE TIED CARD OF 'shawmlaw17.BookShapes'. -/
def bookShapesCard : Claim7 := { stood := { row := bookShapesRow, standIns := [], harness := (true, "e89a4804b770bba58d59b98e3511c6464a6c80fb23fbeab8fcd2f00d41235b02"), looks := false }, kinds := [], alts := [], laidByText := true, laidKinds := [.wider, .data], laidTests := true, laidLooks := .later }
def BookShapesCardSaid : Prop := Claim7.holds Tryd.pinned (.plain (OpenSpec.ofChange bookShapesSpec)) bookShapesCard

/-- THE TIED CARD OF 'shawmlaw17.BookCosts'. -/
def bookCostsCard : Claim7 := { stood := { row := bookCostsRow, standIns := [], harness := (true, "e89a4804b770bba58d59b98e3511c6464a6c80fb23fbeab8fcd2f00d41235b02"), looks := false }, kinds := [], alts := [], laidByText := true, laidKinds := [.wider, .data], laidTests := true, laidLooks := .later }
def BookCostsCardSaid : Prop := Claim7.holds Tryd.pinned (.plain (OpenSpec.ofChange bookCostsSpec)) bookCostsCard

/-- THE TIED CARD OF 'shawmlaw17.BookReads'. -/
def bookReadsCard : Claim7 := { stood := { row := bookReadsRow, standIns := [], harness := (true, "e89a4804b770bba58d59b98e3511c6464a6c80fb23fbeab8fcd2f00d41235b02"), looks := false }, kinds := [], alts := [], laidByText := true, laidKinds := [.wider, .data], laidTests := true, laidLooks := .later }
def BookReadsCardSaid : Prop := Claim7.holds Tryd.pinned (.plain (OpenSpec.ofChange bookReadsSpec)) bookReadsCard

/-- THE TIED CARD OF 'shawmlaw17.BookLeast'. -/
def bookLeastCard : Claim7 := { stood := { row := bookLeastRow, standIns := [], harness := (true, "e89a4804b770bba58d59b98e3511c6464a6c80fb23fbeab8fcd2f00d41235b02"), looks := false }, kinds := [], alts := [], laidByText := true, laidKinds := [.wider, .data], laidTests := true, laidLooks := .later }
def BookLeastCardSaid : Prop := Claim7.holds Tryd.pinned (.plain (OpenSpec.ofChange bookLeastSpec)) bookLeastCard

/-- THE TIED CARD OF 'shawmlaw17.BookSigns'. -/
def bookSignsCard : Claim7 := { stood := { row := bookSignsRow, standIns := [], harness := (true, "e89a4804b770bba58d59b98e3511c6464a6c80fb23fbeab8fcd2f00d41235b02"), looks := false }, kinds := [], alts := [], laidByText := true, laidKinds := [.wider, .data], laidTests := true, laidLooks := .later }
def BookSignsCardSaid : Prop := Claim7.holds Tryd.pinned (.plain (OpenSpec.ofChange bookSignsSpec)) bookSignsCard

/-- THE TIED CARD OF 'shawmlaw17.BookWrites'. -/
def bookWritesCard : Claim7 := { stood := { row := bookWritesRow, standIns := [], harness := (true, "e89a4804b770bba58d59b98e3511c6464a6c80fb23fbeab8fcd2f00d41235b02"), looks := false }, kinds := [], alts := [], laidByText := true, laidKinds := [.wider, .data], laidTests := true, laidLooks := .later }
def BookWritesCardSaid : Prop := Claim7.holds Tryd.pinned (.plain (OpenSpec.ofChange bookWritesSpec)) bookWritesCard

/-- THE TIED CARD OF 'shawmlaw17.BookBack'. -/
def bookBackCard : Claim7 := { stood := { row := bookBackRow, standIns := [], harness := (true, "e89a4804b770bba58d59b98e3511c6464a6c80fb23fbeab8fcd2f00d41235b02"), looks := false }, kinds := [], alts := [], laidByText := true, laidKinds := [.wider, .data], laidTests := true, laidLooks := .later }
def BookBackCardSaid : Prop := Claim7.holds Tryd.pinned (.plain (OpenSpec.ofChange bookBackSpec)) bookBackCard

/-- THE SECOND FORM's CARD OF 'shawmlaw17.BookShapes'. -/
def bookShapesUptoCard : Claim7 := { stood := { row := bookShapesUptoRow, standIns := [], harness := (true, "e89a4804b770bba58d59b98e3511c6464a6c80fb23fbeab8fcd2f00d41235b02"), looks := false }, kinds := [], alts := [], laidByText := true, laidKinds := [.wider, .data], laidTests := true, laidLooks := .later }
def BookShapesUptoCardSaid : Prop := Claim7.holds Tryd.pinned (.plain (OpenSpec.upto bookShapesSpec)) bookShapesUptoCard

/-- THE SECOND FORM's CARD OF 'shawmlaw17.BookCosts'. -/
def bookCostsUptoCard : Claim7 := { stood := { row := bookCostsUptoRow, standIns := [], harness := (true, "e89a4804b770bba58d59b98e3511c6464a6c80fb23fbeab8fcd2f00d41235b02"), looks := false }, kinds := [], alts := [], laidByText := true, laidKinds := [.wider, .data], laidTests := true, laidLooks := .later }
def BookCostsUptoCardSaid : Prop := Claim7.holds Tryd.pinned (.plain (OpenSpec.upto bookCostsSpec)) bookCostsUptoCard

/-- THE SECOND FORM's CARD OF 'shawmlaw17.BookReads'. -/
def bookReadsUptoCard : Claim7 := { stood := { row := bookReadsUptoRow, standIns := [], harness := (true, "e89a4804b770bba58d59b98e3511c6464a6c80fb23fbeab8fcd2f00d41235b02"), looks := false }, kinds := [], alts := [], laidByText := true, laidKinds := [.wider, .data], laidTests := true, laidLooks := .later }
def BookReadsUptoCardSaid : Prop := Claim7.holds Tryd.pinned (.plain (OpenSpec.upto bookReadsSpec)) bookReadsUptoCard

/-- THE SECOND FORM's CARD OF 'shawmlaw17.BookLeast'. -/
def bookLeastUptoCard : Claim7 := { stood := { row := bookLeastUptoRow, standIns := [], harness := (true, "e89a4804b770bba58d59b98e3511c6464a6c80fb23fbeab8fcd2f00d41235b02"), looks := false }, kinds := [], alts := [], laidByText := true, laidKinds := [.wider, .data], laidTests := true, laidLooks := .later }
def BookLeastUptoCardSaid : Prop := Claim7.holds Tryd.pinned (.plain (OpenSpec.upto bookLeastSpec)) bookLeastUptoCard

/-- THE SECOND FORM's CARD OF 'shawmlaw17.BookSigns'. -/
def bookSignsUptoCard : Claim7 := { stood := { row := bookSignsUptoRow, standIns := [], harness := (true, "e89a4804b770bba58d59b98e3511c6464a6c80fb23fbeab8fcd2f00d41235b02"), looks := false }, kinds := [], alts := [], laidByText := true, laidKinds := [.wider, .data], laidTests := true, laidLooks := .later }
def BookSignsUptoCardSaid : Prop := Claim7.holds Tryd.pinned (.plain (OpenSpec.upto bookSignsSpec)) bookSignsUptoCard

/-- THE SECOND FORM's CARD OF 'shawmlaw17.BookWrites'. -/
def bookWritesUptoCard : Claim7 := { stood := { row := bookWritesUptoRow, standIns := [], harness := (true, "e89a4804b770bba58d59b98e3511c6464a6c80fb23fbeab8fcd2f00d41235b02"), looks := false }, kinds := [], alts := [], laidByText := true, laidKinds := [.wider, .data], laidTests := true, laidLooks := .later }
def BookWritesUptoCardSaid : Prop := Claim7.holds Tryd.pinned (.plain (OpenSpec.upto bookWritesSpec)) bookWritesUptoCard

/-- THE SECOND FORM's CARD OF 'shawmlaw17.BookBack'. -/
def bookBackUptoCard : Claim7 := { stood := { row := bookBackUptoRow, standIns := [], harness := (true, "e89a4804b770bba58d59b98e3511c6464a6c80fb23fbeab8fcd2f00d41235b02"), looks := false }, kinds := [], alts := [], laidByText := true, laidKinds := [.wider, .data], laidTests := true, laidLooks := .later }
def BookBackUptoCardSaid : Prop := Claim7.holds Tryd.pinned (.plain (OpenSpec.upto bookBackSpec)) bookBackUptoCard
end Rows
end Go.Proofs.YtciknejchglmoaaDoor
